/- The law LowerWith answers true at every input: what is opened can be closed by a try. No condition. -/
import Derived.Test.YtbjgilehnlpmaaaJ1
import Derived.Test.YtbjgilehnlpmaaaShelf
import Derived.Test.YtbjgilehnlpmaaaRows
import Derived.WalkKit
import Derived.ProofKit
import Derived.OpenShut
import Derived.ShutString
import Derived.ChangeOld
import Derived.Below
section
set_option linter.unusedVariables false
set_option linter.unusedSimpArgs false
namespace Go.Proofs.Ytbjgilehnlpmaaa
open Go Go.Sim
set_option maxRecDepth 100000
attribute [local go_sem ↓] aw_skip aw_ret aw_exit aw_region aw_draw aw_seq aw_block aw_loop aw_cond frz_nil frz_cons sq_normal sq_ret sq_exit exB_normal exB_ret exB_same exB_other retQ_ret retQ_normal ret0_ret ret0_normal ao_nil go1 g_move g_assign g_pick g_build g_load g_binOp g_unOp g_convert g_fieldAddr g_field g_indexAddr g_index g_extract g_slice g_nilCheck g_len g_makeFunc h_call h_append h_alloc h_box h_buildSlice h_makeSlice h_store gV i_box i_buildSlice i_move i_assign i_build i_load i_binOp i_unOp i_convert i_fieldAddr i_field i_indexAddr i_index i_extract i_slice i_nilCheck i_makeFunc i_len i_max i_min i_alloc i_makeSlice i_store i_append i_call i_pick boxI boxA buildSliceI buildSliceA makeSliceA allocA storeA p_move p_assign p_pick p_build p_load p_binOp p_unOp p_convert p_fieldAddr p_field p_indexAddr p_index p_extract p_slice p_nilCheck p_makeFunc p_len p_max p_min p_alloc p_box p_buildSlice p_makeSlice p_store p_append p_call x_nil x_go1 x_g0 x_g1 x_g2 x_g3 x_s0 x_s1 x_s2 x_s3 u_move u_assign u_pick u_build u_load u_binOp u_unOp u_convert u_fieldAddr u_field u_indexAddr u_index u_extract u_slice u_nilCheck u_makeFunc u_len u_buildSlice x_s4 x_g4 rq_normal rq_ret rq_exit aw_range
attribute [local go_sem] frzV_sl frzK_some set_none set_other AHeap.set_self set_del set_set cnd_t cnd_f cnd_b retA_one retA_two retA_three retA_four retA_nil gIf_b mrgV_b mrgV_wh mrgV_U gIf_U gIf_wh mrgB_f mrgB_some mrgB_if wh_true wh_false keepA_some keepA_if gD_zero gD_succ gT_some bxA_t bxA_f callA_fn ev_tmp ev_const ev_global ev_func oc_bool oc_int oc_string oc_nil oc_nilptr oc_nilfunc cl_bool cl_int cl_string cl_nil updO_some updO_none upd_same upd_other init_at pickA_b pickA_wh selA_t selA_f selA_and selA_or selA_orn selA_orm selA_bb selA_ii beqt b_add b_sub b_mul b_and b_or b_xor b_eql b_neq b_lss b_leq b_gtr b_geq b_quo b_rem b_shr b_seql b_sneq b_sadd b_beql b_bneq b_aeql b_aneq u_not u_neg isConstOp eqA eqCellV List.getD_cons_zero List.getD_cons_succ List.map_cons List.map_nil List.nil_append List.cons_append List.append_nil if_true if_false Option.map_some Option.map_none ne_eq not_false_eq_true oneA ldv ld1v ld1s wr1s ldRow stRow row_lit row_agg row_vsl row_sl row_ptr row_fn one_I one_B one_S one_vsl one_sl one_ptr one_fn extractA okA rI rS rU rClass rFault rExit rStart rLine Int.toNat_natCast List.length_cons List.length_nil List.length_map List.all_cons List.all_nil Bool.and_true Nat.zero_add List.getElem?_cons_zero List.getElem?_cons_succ List.take_succ_cons List.take_zero List.drop_succ_cons List.drop_zero and_self true_and and_true implies_true decide_eq_true_eq decide_eq_false_iff_not Bool.or_eq_true Bool.or_eq_false_iff Bool.and_eq_true Bool.not_eq_true' Bool.not_eq_false' beq_false decide_true decide_false Int.ofNat_lt Int.ofNat_le Int.natCast_nonneg Bool.or_true Bool.or_false Bool.true_or Bool.false_or beq_self_eq_true List.drop_one Bool.not_true Bool.not_false Bool.not_not Bool.false_eq_true Bool.true_eq_false false_implies true_implies Bool.true_and Bool.false_and Bool.and_false not_true_eq_false Int.natCast_eq_zero Int.natCast_pos Int.natCast_zero false_and and_false or_false false_or or_true true_or Bool.or_self none_le_iff List.replicate_zero Int.toNat_zero List.replicate_succ buildRows List.set_cons_zero List.set_cons_succ List.set_nil List.mapM_nil maxLen_eq Nat.zero_le Nat.mul_one Nat.one_mul bldA fillA spliceA List.take_nil List.drop_nil List.getElem?_nil ld1o wr1o bldSliceA le_same cv_i cvI_t quietT_fn qvd_some ld_o ldO_1 ldO_l wr_o wrO_1 set_2 set_3 set_4 putL_nil putL_cons List.zip_cons_cons List.zip_nil_left List.zip_nil_right List.toList_toArray frzV_set ti1 ti2 tk2 ti3 te3 ts3 tk3 tz3 ti4 tb4 ti5 tk5 tz5 ti9 te9 ts9 tk9 tz9 ti12 tk12 ti13 tp13 tf13_0 tf13_1 ti20 ti21 tk21 tz21 ti22 te22 ti23 tp23 tf23_0 ti24 tp24 tf24_0 ti25 te25 ti27 ti28 ti29 te29 ti30 te30 ti31 tp31 tf31_0 ti32 tp32 tf32_0 ti33 tp33 tf33_0 tf33_1 tf33_2 tf33_3 ti34 tp34 tf34_0 tf34_1 tf34_2 tf34_3 ti35 ti36 tq36 tp36 tf36_0 tf36_1 tf36_2 tf36_3 ti37 tq37 tp37 tf37_0 tf37_1 tf37_2 tf37_3 ti38 ti39 ti40 ti41 ti42 ti43 ti44 te44 tz44 ti46 ti47 ti48 ti49 ti50 ti51 ti52 tq52 tp52 tf52_0 tf52_1 ti53 tq53 tp53 tf53_0 tf53_1 ti54 ti55 tq55 tp55 tf55_0 tf55_1 tf55_2 tf55_3 tf55_4 ti56 tq56 tp56 tf56_0 tf56_1 tf56_2 tf56_3 tf56_4 ti57 ti58 ti59 ti60 ti61 ti62 ti63 ti64 ti65 ti66 ti67 ti68 ti69 ti70 tp70 tf70_0 tf70_1 tf70_2 tf70_3 tf70_4 ti71 tp71 tf71_0 tf71_1 tf71_2 tf71_3 tf71_4 ti73 ti74 ti75 ti76 ti77 ti78 ti79 ti80 tq80 tp80 tf80_0 tf80_1 ti81 tq81 tp81 tf81_0 tf81_1 ti82 ti83 ti84 ti85 ti86 ti87 ti88 ti89 ti90 tp90 tf90_0 tf90_1 ti91 tp91 tf91_0 tf91_1 ti92 ti93 ti94 ti95 ti96 ti97 ti98 ti99 ti100 ti101 ti102 ti103 te103 ti104 ti105 ti106 ti107 ti108 ti109 ti110 ti111 ti112 tk112 tz112 ti113 ti114 ti115 tk115 ti117 ti118 ti119 ti121 ti122 ti123 tk123 tz123 ti124 ti125 tk125 tz125 ti126 ti127 tk127 ti128 ti129 ti130 ti131 ti132 ti133 ti135 ti136 ti142 ti146 fp13_0 fv13_0 fp13_1 fv13_1 fp23_0 fv23_0 fp24_0 fv24_0 fp31_0 fv31_0 fp32_0 fv32_0 fp33_0 fv33_0 fp33_1 fv33_1 fp33_2 fv33_2 fp33_3 fv33_3 fp34_0 fv34_0 fp34_1 fv34_1 fp34_2 fv34_2 fp34_3 fv34_3 fp36_0 fv36_0 fp36_1 fv36_1 fp36_2 fv36_2 fp36_3 fv36_3 fp37_0 fv37_0 fp37_1 fv37_1 fp37_2 fv37_2 fp37_3 fv37_3 fp52_0 fv52_0 fp52_1 fv52_1 fp53_0 fv53_0 fp53_1 fv53_1 fp55_0 fv55_0 fp55_1 fv55_1 fp55_2 fv55_2 fp55_3 fv55_3 fp55_4 fv55_4 fp56_0 fv56_0 fp56_1 fv56_1 fp56_2 fv56_2 fp56_3 fv56_3 fp56_4 fv56_4 fp70_0 fv70_0 fp70_1 fv70_1 fp70_2 fv70_2 fp70_3 fv70_3 fp70_4 fv70_4 fp71_0 fv71_0 fp71_1 fv71_1 fp71_2 fv71_2 fp71_3 fv71_3 fp71_4 fv71_4 fp80_0 fv80_0 fp80_1 fv80_1 fp81_0 fv81_0 fp81_1 fv81_1 fp90_0 fv90_0 fp90_1 fv90_1 fp91_0 fv91_0 fp91_1 fv91_1 lv22 ll22 is22 ix22 sh22 so22 sb22 sm22 sp22 lv25 ll25 is25 ix25 sh25 so25 sb25 sm25 sp25 lv29 ll29 is29 ix29 sh29 so29 sb29 sm29 sp29 lv30 ll30 is30 ix30 sh30 so30 sb30 sm30 sp30 lv44 ll44 is44 ix44 sh44 so44 sb44 sm44 sp44 lv103 ll103 is103 ix103 sh103 so103 sb103 sm103 sp103 xs9 ls9 sx9 sy9 sz9

theorem c_Sort (H : AHeap) (b : Nat) (ty : TypeId) (l : List Int) (cl : Bool) {Q : AV → AHeap → Prop} (hb : H b = some ⟨1, ty, l.map rI⟩) (hl : l.length < 4611686018427387904) (k : Q (.tup []) (H.set b ⟨1, ty, (sortI l).map rI⟩)) :
    ACalls Try.prog 88 [.sl b 1 0 l.length cl] H Q :=
  acalls_sort (by kernel_rfl) Try.slices_Sort_int hb hl k
theorem c_SortG (H0 H : AHeap) (x : AV) (l : List Int) (hg : Grow rI 1 3 H0 H x l) (hn : l ≠ []) (hl : l.length < 4611686018427387904) :
    ACalls Try.prog 88 [x] H fun r H' => r = .tup [] ∧ Grow rI 1 3 H0 H' x (sortI l) := by
  rcases hg with ⟨e, _, _⟩ | ⟨b, cl, hb, rfl, rfl⟩
  · exact absurd e hn
  · refine c_Sort _ b 3 l cl (AHeap.set_self ..) hl ⟨rfl, .inr ⟨b, cl, hb, by rw [sortI_len], set_set⟩⟩

def causeOf (h : List Fault) (a : Int) : Int := (h.getD a.toNat default).cause
/-- A link's end put to what is there, if it is new. -/
def addF (out : List Int) (g : Int) : List Int := if 0 ≤ g ∧ (out.any fun x => decide (g = x)) = false then out ++ [g] else out
def bfsG (h : List Fault) : Nat → Nat → List Int → List Int
  | 0, _, out => out
  | n + 1, i, out => if i < out.length then bfsG h n (i + 1) (addF (addF out (causeOf h (out.getD i default))) (ctxOf h (out.getD i default))) else out
def bfsF (h : List Fault) (f : Int) : List Int := bfsG h (h.length + 1) 0 [f]
/-- Numbers of a heap, each once. -/
structure Nums (n : Nat) (out : List Int) : Prop where
  mem : ∀ a ∈ out, 0 ≤ a ∧ a < n
  free : freeN n out + out.length ≤ n
theorem Nums.add {n : Nat} {out : List Int} (h : Nums n out) {g : Int} (hg : g < n) : Nums n (addF out g) := by
  unfold addF
  split
  · rename_i hc
    refine ⟨fun a ha => ?_, ?_⟩
    · rcases List.mem_append.1 ha with q | q
      · exact h.mem a q
      · simp at q; subst q; exact ⟨hc.1, hg⟩
    · have := freeN_lt hc.1 hg hc.2
      have := h.free
      simp; omega
  · exact h
theorem Nums.one {n : Nat} {f : Int} (h0 : 0 ≤ f) (h1 : f < n) : Nums n [f] := by
  refine ⟨fun a ha => by simp at ha; subst ha; exact ⟨h0, h1⟩, ?_⟩
  have := freeN_lt (out := []) h0 h1 rfl
  have := freeN_nil n
  simp at *; omega
theorem addF_len (out : List Int) (g : Int) : out.length ≤ (addF out g).length := by
  unfold addF; split <;> simp

theorem c_mreach (h : List Fault) (cl : Bool) (f : Int) (H : AHeap) (hl : h.length ≤ 1000000) (h0 : 0 ≤ f) (h1 : f < h.length) (hlk : ∀ k, k < h.length → (h.getD k default).cause < h.length ∧ (h.getD k default).ctx < h.length) :
    ACalls Try.prog 70 [aHeap h cl, I f] H fun r H' => Grow rI 1 3 H H' r (sortI (bfsF h f)) := by
  refine acalls_of0 Try.func70 rfl (by kernel_rfl) rfl rfl (awp_sound (fz := fun _ => []) (im := fun s => s == 2 || s == 51) mixed _ _ _ _ (by kernel_rfl) ?_)
  simp +contextual -dsimp -implicitDefEqProofs (maxSteps := 5000000) only [go_sem, reduceIte, reduceCtorEq, Nat.reduceEqDiff, Nat.reduceBEq, Nat.reduceAdd, Nat.reduceLeDiff, Nat.reduceMul, Nat.reduceLT, Int.reduceEq, Int.reduceLT, Int.reduceLE]
  intro b5 hb5
  refine aloop mixed (fz := fun _ => []) (im := fun s => s == 2 || s == 51) (by kernel_rfl) (fun m tm H' => ∃ (i : Nat) (out : List Int) (x : AV), m = h.length + 1 - i ∧ i ≤ out.length ∧ Nums h.length out ∧ out ≠ [] ∧ Grow rI 1 3 H H' x out ∧ tm 2 = .vptr [[.vsl (h.map rFault) cl]] 0 0 ∧ tm 5 = x ∧ tm 6 = I i ∧ bfsG h (h.length + 1 - i) i out = bfsF h f) (h.length + 1) ⟨0, [f], .sl b5 1 0 1 true, rfl, by simp, Nums.one h0 h1, by simp, .inr ⟨b5, true, hb5, rfl, rfl⟩, ?_⟩ ?_
  · simp +contextual -dsimp -implicitDefEqProofs (maxSteps := 5000000) only [go_sem, reduceIte, reduceCtorEq, Nat.reduceEqDiff, Nat.reduceBEq, Nat.reduceAdd, Nat.reduceLeDiff, Nat.reduceMul, Nat.reduceLT, Int.reduceEq, Int.reduceLT, Int.reduceLE]
    rfl
  · rintro m tm H' ⟨i, out, x, rfl, hi, hn, hne, hg, t2, t5, t6, he⟩
    have hlen := grow_len te29 hg
    have hol : out.length ≤ h.length := by have := hn.free; omega
    simp +contextual -dsimp -implicitDefEqProofs (maxSteps := 5000000) only [go_sem, reduceIte, reduceCtorEq, Nat.reduceEqDiff, Nat.reduceBEq, Nat.reduceAdd, Nat.reduceLeDiff, Nat.reduceMul, Nat.reduceLT, Int.reduceEq, Int.reduceLT, Int.reduceLE, t2, t5, t6, hlen]
    refine ⟨fun hlt => ?_, fun hlt => ?_⟩
    · refine draw_intro [0, 0, 0, 0, 0, 0, 0, 0, 0, 0, 0, 0, 0, 0, 0, 0, 0, 0, 0, 0, 0] AHeap.none (by kernel_rfl) none_le ?_
      rcases hg with ⟨e1, _, _⟩ | ⟨b, cl', hb, rfl, rfl⟩
      · exact absurd e1 hne
      have hm := hn.mem (out.getD i default) (by rw [List.getD_eq_getElem?_getD, List.getElem?_eq_getElem hlt]; exact List.getElem_mem hlt)
      have i1 := hm.1
      have i2 := hm.2
      have i3 : (out.getD i default).toNat < h.length := by omega
      have hk1 := (hlk _ i3).1
      have hk2 := (hlk _ i3).2
      simp +contextual -dsimp -implicitDefEqProofs (maxSteps := 5000000) only [go_sem, reduceIte, reduceCtorEq, Nat.reduceEqDiff, Nat.reduceBEq, Nat.reduceAdd, Nat.reduceLeDiff, Nat.reduceMul, Nat.reduceLT, Int.reduceEq, Int.reduceLT, Int.reduceLE, t2, t5, t6, hlt, i1, i2, i3]
      have hg : Grow rI 1 3 H (H.set b ⟨1, 3, out.map rI⟩) (.sl b 1 0 out.length cl') out := .inr ⟨b, cl', hb, rfl, rfl⟩
      generalize H.set b ⟨1, 3, out.map rI⟩ = HH at hg ⊢
      generalize hx : AV.sl b 1 0 out.length cl' = x at hg ⊢
      refine aloop mixed (fz := fun _ => []) (im := fun s => s == 2 || s == 51) (by kernel_rfl) (fun m tm H' => ∃ (j : Nat) (o : List Int) (x : AV), m = 2 - j ∧ j ≤ 2 ∧ Grow rI 1 3 H H' x o ∧ Nums h.length o ∧ o ≠ [] ∧ out.length ≤ o.length ∧ tm 2 = .vptr [[.vsl (h.map rFault) cl]] 0 0 ∧ tm 5 = x ∧ tm 6 = I i ∧ tm 35 = .vsl ([causeOf h (out.getD i default), ctxOf h (out.getD i default)].map rI) true ∧ tm 36 = I 2 ∧ tm 37 = I j ∧ o = (if j = 0 then out else if j = 1 then addF out (causeOf h (out.getD i default)) else addF (addF out (causeOf h (out.getD i default))) (ctxOf h (out.getD i default)))) 2 ⟨0, out, x, rfl, by simp, hg, hn, hne, Nat.le_refl _, ?_⟩ ?_
      · simp +contextual -dsimp -implicitDefEqProofs (maxSteps := 5000000) only [go_sem, reduceIte, reduceCtorEq, Nat.reduceEqDiff, Nat.reduceBEq, Nat.reduceAdd, Nat.reduceLeDiff, Nat.reduceMul, Nat.reduceLT, Int.reduceEq, Int.reduceLT, Int.reduceLE, t2, t5, t6, hlt, i1, i2, i3, hx]
        simp [causeOf, ctxOf]
      · rintro m tm H' ⟨j, o, x', rfl, hj, hg', hn', hne', hol', t2, t5, t6, t35, t36, t37, ho⟩
        have hol2 : o.length ≤ h.length := by have := hn'.free; omega
        generalize hL : [causeOf h (out.getD i default), ctxOf h (out.getD i default)] = L at t35
        have hLl : L.length = 2 := by rw [← hL]; rfl
        simp +contextual -dsimp -implicitDefEqProofs (maxSteps := 5000000) only [go_sem, reduceIte, reduceCtorEq, Nat.reduceEqDiff, Nat.reduceBEq, Nat.reduceAdd, Nat.reduceLeDiff, Nat.reduceMul, Nat.reduceLT, Int.reduceEq, Int.reduceLT, Int.reduceLE, t2, t5, t6, t35, t36, t37, hLl]
        refine ⟨fun hj2 => ⟨by omega, ?_⟩, fun hj2 => ?_⟩
        · have hc : ∀ g, g = L.getD j default → g < h.length := by
            rintro g rfl
            have : j = 0 ∨ j = 1 := by omega
            rcases this with rfl | rfl
            · rw [← hL]; exact hk1
            · rw [← hL]; exact hk2
          have hnx : (if j + 1 = 0 then out else if j + 1 = 1 then addF out (causeOf h (out.getD i default)) else addF (addF out (causeOf h (out.getD i default))) (ctxOf h (out.getD i default))) = addF o (L.getD j default) := by
            have : j = 0 ∨ j = 1 := by omega
            rcases this with rfl | rfl
            · rw [← hL, ho]; rfl
            · rw [← hL, ho]; rfl
          have hgl := hc _ rfl
          generalize L.getD j default = g at hgl hnx
          refine ⟨by omega, fun hg0 => (c_ContainsG o x' g H H' hg').det ?_, fun hg0 => ?_⟩
          · cases ha : o.any fun x => decide (g = x)
            · simp +contextual -dsimp -implicitDefEqProofs (maxSteps := 5000000) only [go_sem, reduceIte, reduceCtorEq, Nat.reduceEqDiff, Nat.reduceBEq, Nat.reduceAdd, Nat.reduceLeDiff, Nat.reduceMul, Nat.reduceLT, Int.reduceEq, Int.reduceLT, Int.reduceLE, t2, t5, t6, t35, t36, t37, hLl, hg0]
              have hadd : addF o g = o ++ [g] := by rw [addF, if_pos ⟨hg0, ha⟩]
              refine grow_append (m := [g]) te29 ti3 rI_len (by decide) hg' (by simp; omega) (by simp; omega) rfl fun x2 H2 hg2 => ?_
              simp +contextual -dsimp -implicitDefEqProofs (maxSteps := 5000000) only [go_sem, reduceIte, reduceCtorEq, Nat.reduceEqDiff, Nat.reduceBEq, Nat.reduceAdd, Nat.reduceLeDiff, Nat.reduceMul, Nat.reduceLT, Int.reduceEq, Int.reduceLT, Int.reduceLE, t2, t5, t6, t35, t36, t37, hLl, hg0]
              rw [← hadd] at hg2
              exact ⟨2 - (j + 1), by omega, j + 1, addF o g, x2, rfl, by omega, hg2, hn'.add hgl, by rw [hadd]; simp, Nat.le_trans hol' (addF_len _ _), rfl, I_wrap (by simp) (by omega) (by omega), hnx.symm⟩
            · simp +contextual -dsimp -implicitDefEqProofs (maxSteps := 5000000) only [go_sem, reduceIte, reduceCtorEq, Nat.reduceEqDiff, Nat.reduceBEq, Nat.reduceAdd, Nat.reduceLeDiff, Nat.reduceMul, Nat.reduceLT, Int.reduceEq, Int.reduceLT, Int.reduceLE, t2, t5, t6, t35, t36, t37, hLl, hg0]
              exact ⟨2 - (j + 1), by omega, j + 1, o, x', rfl, by omega, hg', hn', hne', hol', rfl, I_wrap (by simp) (by omega) (by omega), by rw [hnx, addF, if_neg (by rw [ha]; simp)]⟩
          · exact ⟨2 - (j + 1), by omega, j + 1, o, x', rfl, by omega, hg', hn', hne', hol', rfl, I_wrap (by simp) (by omega) (by omega), by rw [hnx, addF, if_neg (fun q => hg0 q.1)]⟩
        · have hj3 : j = 2 := by omega
          subst hj3
          have hq : h.length + 1 - i = (h.length + 1 - (i + 1)) + 1 := by omega
          rw [hq, bfsG, if_pos hlt] at he
          have ho' : o = addF (addF out (causeOf h (out.getD i default))) (ctxOf h (out.getD i default)) := ho
          exact ⟨_, by omega, i + 1, o, x', rfl, by omega, hn', hne', hg', rfl, I_wrap (by simp) (by omega) (by omega), by rw [ho']; exact he⟩
    · refine (c_SortG H H' x out hg hne (by omega)).mono ?_
      rintro _ H'' ⟨rfl, hg'⟩
      simp +contextual -dsimp -implicitDefEqProofs (maxSteps := 5000000) only [go_sem, reduceIte, reduceCtorEq, Nat.reduceEqDiff, Nat.reduceBEq, Nat.reduceAdd, Nat.reduceLeDiff, Nat.reduceMul, Nat.reduceLT, Int.reduceEq, Int.reduceLT, Int.reduceLE, t2, t5, t6, hlen]
      refine (c_ClipG (sortI out) x H H'' hg').mono fun r H3 hg3 => ?_
      simp +contextual -dsimp -implicitDefEqProofs (maxSteps := 5000000) only [go_sem, reduceIte, reduceCtorEq, Nat.reduceEqDiff, Nat.reduceBEq, Nat.reduceAdd, Nat.reduceLeDiff, Nat.reduceMul, Nat.reduceLT, Int.reduceEq, Int.reduceLT, Int.reduceLE, t2, t5, t6, hlen]
      have : bfsF h f = out := by
        rw [← he]
        cases hq : h.length + 1 - i with
        | zero => rfl
        | succ q => rw [bfsG, if_neg hlt]
      rw [this]; exact hg3
end Go.Proofs.Ytbjgilehnlpmaaa
end
section
set_option linter.unusedVariables false
set_option linter.unusedSimpArgs false
namespace Go.Proofs.Ytbjgilehnlpmaaa
open Go Go.Sim
set_option maxRecDepth 100000
attribute [local go_sem ↓] aw_skip aw_ret aw_exit aw_region aw_draw aw_seq aw_block aw_loop aw_cond frz_nil frz_cons sq_normal sq_ret sq_exit exB_normal exB_ret exB_same exB_other retQ_ret retQ_normal ret0_ret ret0_normal ao_nil go1 g_move g_assign g_pick g_build g_load g_binOp g_unOp g_convert g_fieldAddr g_field g_indexAddr g_index g_extract g_slice g_nilCheck g_len g_makeFunc h_call h_append h_alloc h_box h_buildSlice h_makeSlice h_store gV i_box i_buildSlice i_move i_assign i_build i_load i_binOp i_unOp i_convert i_fieldAddr i_field i_indexAddr i_index i_extract i_slice i_nilCheck i_makeFunc i_len i_max i_min i_alloc i_makeSlice i_store i_append i_call i_pick boxI boxA buildSliceI buildSliceA makeSliceA allocA storeA p_move p_assign p_pick p_build p_load p_binOp p_unOp p_convert p_fieldAddr p_field p_indexAddr p_index p_extract p_slice p_nilCheck p_makeFunc p_len p_max p_min p_alloc p_box p_buildSlice p_makeSlice p_store p_append p_call x_nil x_go1 x_g0 x_g1 x_g2 x_g3 x_s0 x_s1 x_s2 x_s3 u_move u_assign u_pick u_build u_load u_binOp u_unOp u_convert u_fieldAddr u_field u_indexAddr u_index u_extract u_slice u_nilCheck u_makeFunc u_len u_buildSlice x_s4 x_g4 rq_normal rq_ret rq_exit aw_range
attribute [local go_sem] frzV_sl frzK_some set_none set_other AHeap.set_self set_del set_set cnd_t cnd_f cnd_b retA_one retA_two retA_three retA_four retA_nil gIf_b mrgV_b mrgV_wh mrgV_U gIf_U gIf_wh mrgB_f mrgB_some mrgB_if wh_true wh_false keepA_some keepA_if gD_zero gD_succ gT_some bxA_t bxA_f callA_fn ev_tmp ev_const ev_global ev_func oc_bool oc_int oc_string oc_nil oc_nilptr oc_nilfunc cl_bool cl_int cl_string cl_nil updO_some updO_none upd_same upd_other init_at pickA_b pickA_wh selA_t selA_f selA_and selA_or selA_orn selA_orm selA_bb selA_ii beqt b_add b_sub b_mul b_and b_or b_xor b_eql b_neq b_lss b_leq b_gtr b_geq b_quo b_rem b_shr b_seql b_sneq b_sadd b_beql b_bneq b_aeql b_aneq u_not u_neg isConstOp eqA eqCellV List.getD_cons_zero List.getD_cons_succ List.map_cons List.map_nil List.nil_append List.cons_append List.append_nil if_true if_false Option.map_some Option.map_none ne_eq not_false_eq_true oneA ldv ld1v ld1s wr1s ldRow stRow row_lit row_agg row_vsl row_sl row_ptr row_fn one_I one_B one_S one_vsl one_sl one_ptr one_fn extractA okA rI rS rU rClass rFault rExit rStart rLine Int.toNat_natCast List.length_cons List.length_nil List.length_map List.all_cons List.all_nil Bool.and_true Nat.zero_add List.getElem?_cons_zero List.getElem?_cons_succ List.take_succ_cons List.take_zero List.drop_succ_cons List.drop_zero and_self true_and and_true implies_true decide_eq_true_eq decide_eq_false_iff_not Bool.or_eq_true Bool.or_eq_false_iff Bool.and_eq_true Bool.not_eq_true' Bool.not_eq_false' beq_false decide_true decide_false Int.ofNat_lt Int.ofNat_le Int.natCast_nonneg Bool.or_true Bool.or_false Bool.true_or Bool.false_or beq_self_eq_true List.drop_one Bool.not_true Bool.not_false Bool.not_not Bool.false_eq_true Bool.true_eq_false false_implies true_implies Bool.true_and Bool.false_and Bool.and_false not_true_eq_false Int.natCast_eq_zero Int.natCast_pos Int.natCast_zero false_and and_false or_false false_or or_true true_or Bool.or_self none_le_iff List.replicate_zero Int.toNat_zero List.replicate_succ buildRows List.set_cons_zero List.set_cons_succ List.set_nil List.mapM_nil maxLen_eq Nat.zero_le Nat.mul_one Nat.one_mul bldA fillA spliceA List.take_nil List.drop_nil List.getElem?_nil ld1o wr1o bldSliceA le_same cv_i cvI_t quietT_fn qvd_some ld_o ldO_1 ldO_l wr_o wrO_1 set_2 set_3 set_4 putL_nil putL_cons List.zip_cons_cons List.zip_nil_left List.zip_nil_right List.toList_toArray frzV_set ti1 ti2 tk2 ti3 te3 ts3 tk3 tz3 ti4 tb4 ti5 tk5 tz5 ti9 te9 ts9 tk9 tz9 ti12 tk12 ti13 tp13 tf13_0 tf13_1 ti20 ti21 tk21 tz21 ti22 te22 ti23 tp23 tf23_0 ti24 tp24 tf24_0 ti25 te25 ti27 ti28 ti29 te29 ti30 te30 ti31 tp31 tf31_0 ti32 tp32 tf32_0 ti33 tp33 tf33_0 tf33_1 tf33_2 tf33_3 ti34 tp34 tf34_0 tf34_1 tf34_2 tf34_3 ti35 ti36 tq36 tp36 tf36_0 tf36_1 tf36_2 tf36_3 ti37 tq37 tp37 tf37_0 tf37_1 tf37_2 tf37_3 ti38 ti39 ti40 ti41 ti42 ti43 ti44 te44 tz44 ti46 ti47 ti48 ti49 ti50 ti51 ti52 tq52 tp52 tf52_0 tf52_1 ti53 tq53 tp53 tf53_0 tf53_1 ti54 ti55 tq55 tp55 tf55_0 tf55_1 tf55_2 tf55_3 tf55_4 ti56 tq56 tp56 tf56_0 tf56_1 tf56_2 tf56_3 tf56_4 ti57 ti58 ti59 ti60 ti61 ti62 ti63 ti64 ti65 ti66 ti67 ti68 ti69 ti70 tp70 tf70_0 tf70_1 tf70_2 tf70_3 tf70_4 ti71 tp71 tf71_0 tf71_1 tf71_2 tf71_3 tf71_4 ti73 ti74 ti75 ti76 ti77 ti78 ti79 ti80 tq80 tp80 tf80_0 tf80_1 ti81 tq81 tp81 tf81_0 tf81_1 ti82 ti83 ti84 ti85 ti86 ti87 ti88 ti89 ti90 tp90 tf90_0 tf90_1 ti91 tp91 tf91_0 tf91_1 ti92 ti93 ti94 ti95 ti96 ti97 ti98 ti99 ti100 ti101 ti102 ti103 te103 ti104 ti105 ti106 ti107 ti108 ti109 ti110 ti111 ti112 tk112 tz112 ti113 ti114 ti115 tk115 ti117 ti118 ti119 ti121 ti122 ti123 tk123 tz123 ti124 ti125 tk125 tz125 ti126 ti127 tk127 ti128 ti129 ti130 ti131 ti132 ti133 ti135 ti136 ti142 ti146 fp13_0 fv13_0 fp13_1 fv13_1 fp23_0 fv23_0 fp24_0 fv24_0 fp31_0 fv31_0 fp32_0 fv32_0 fp33_0 fv33_0 fp33_1 fv33_1 fp33_2 fv33_2 fp33_3 fv33_3 fp34_0 fv34_0 fp34_1 fv34_1 fp34_2 fv34_2 fp34_3 fv34_3 fp36_0 fv36_0 fp36_1 fv36_1 fp36_2 fv36_2 fp36_3 fv36_3 fp37_0 fv37_0 fp37_1 fv37_1 fp37_2 fv37_2 fp37_3 fv37_3 fp52_0 fv52_0 fp52_1 fv52_1 fp53_0 fv53_0 fp53_1 fv53_1 fp55_0 fv55_0 fp55_1 fv55_1 fp55_2 fv55_2 fp55_3 fv55_3 fp55_4 fv55_4 fp56_0 fv56_0 fp56_1 fv56_1 fp56_2 fv56_2 fp56_3 fv56_3 fp56_4 fv56_4 fp70_0 fv70_0 fp70_1 fv70_1 fp70_2 fv70_2 fp70_3 fv70_3 fp70_4 fv70_4 fp71_0 fv71_0 fp71_1 fv71_1 fp71_2 fv71_2 fp71_3 fv71_3 fp71_4 fv71_4 fp80_0 fv80_0 fp80_1 fv80_1 fp81_0 fv81_0 fp81_1 fv81_1 fp90_0 fv90_0 fp90_1 fv90_1 fp91_0 fv91_0 fp91_1 fv91_1 lv22 ll22 is22 ix22 sh22 so22 sb22 sm22 sp22 lv25 ll25 is25 ix25 sh25 so25 sb25 sm25 sp25 lv29 ll29 is29 ix29 sh29 so29 sb29 sm29 sp29 lv30 ll30 is30 ix30 sh30 so30 sb30 sm30 sp30 lv44 ll44 is44 ix44 sh44 so44 sb44 sm44 sp44 lv103 ll103 is103 ix103 sh103 so103 sb103 sm103 sp103 xs9 ls9 sx9 sy9 sz9

theorem c_misolate0 (h : List Fault) (cl : Bool) (f : Int) (H : AHeap) (hl : h.length ≤ 999999) (h0 : 0 ≤ f) (h1 : f < h.length) (hlk : ∀ k, k < h.length → (h.getD k default).cause < h.length ∧ (h.getD k default).ctx < h.length) (hm : ∀ a ∈ sortI (bfsF h f), 0 ≤ a ∧ a < h.length) (hll : (sortI (bfsF h f)).length ≤ 999999) :
    ACalls Try.prog 43 [aHeap h cl, I f] H fun r H' => ∃ x, r = .tup [.agg [x], I (idxF (fun x => decide (f = x)) (sortI (bfsF h f)))] ∧ Grow rFault 5 56 H H' x (isoL h (sortI (bfsF h f))) := by
  refine acalls_of1 Try.func43 rfl (by kernel_rfl) rfl rfl (awp_sound (fz := fun r => if r = 7 then [10] else []) (im := fun s => s == 2 || s == 42) mixed _ _ _ _ (by kernel_rfl) ?_)
  simp +contextual -dsimp -implicitDefEqProofs (maxSteps := 5000000) only [go_sem, reduceIte, reduceCtorEq, Nat.reduceEqDiff, Nat.reduceBEq, Nat.reduceAdd, Nat.reduceLeDiff, Nat.reduceMul, Nat.reduceLT, Int.reduceEq, Int.reduceLT, Int.reduceLE]
  intro b4 hb4
  refine acalls_frz (c_mreach h cl f _ (by omega) h0 h1 hlk) fun cl1 => ?_
  generalize sortI (bfsF h f) = L at hm hll ⊢
  simp +contextual -dsimp -implicitDefEqProofs (maxSteps := 5000000) only [go_sem, reduceIte, reduceCtorEq, Nat.reduceEqDiff, Nat.reduceBEq, Nat.reduceAdd, Nat.reduceLeDiff, Nat.reduceMul, Nat.reduceLT, Int.reduceEq, Int.reduceLT, Int.reduceLE]
  refine ⟨by omega, by omega, ?_⟩
  rintro bx ⟨x1, x2, hbx⟩ b7 ⟨n1, n2, n3, n4, hb7⟩
  have hgx : Grow rFault 5 56 H (H.set bx ⟨5, 56, []⟩) (.sl bx 5 0 0 false) [] := .inr ⟨bx, false, hbx, rfl, rfl⟩
  have hcm : ((H.set b4 ⟨1, 32, [[.vsl [] true]]⟩).set bx ⟨5, 56, []⟩).set b7 ⟨1, 32, [[.sl bx 5 0 0 false]]⟩ = ((H.set bx ⟨5, 56, []⟩).set b4 ⟨1, 32, [[.vsl [] true]]⟩).set b7 ⟨1, 32, [[.sl bx 5 0 0 false]]⟩ := by rw [set_comm (H := H) x2]
  rw [hcm]
  have e40 : (H.set bx ⟨5, 56, []⟩) b4 = none := by rw [set_other x2]; exact hb4
  have e70 : (H.set bx ⟨5, 56, []⟩) b7 = none := by rw [set_other n1]; exact hb7
  generalize H.set bx ⟨5, 56, []⟩ = H20 at hgx e40 e70 ⊢
  generalize AV.sl bx 5 0 0 false = x0 at hgx ⊢
  refine aloop mixed (fz := fun r => if r = 7 then [10] else []) (im := fun s => s == 2 || s == 42) (by kernel_rfl) (fun m tm H' => ∃ (k : Nat) (H2 : AHeap) (x : AV), m = L.length - k ∧ k ≤ L.length ∧ Grow rFault 5 56 H H2 x ((L.take k).map (isoAt h L)) ∧ H2 b4 = none ∧ H2 b7 = none ∧ H' = (H2.set b4 ⟨1, 32, [[.vsl [] true]]⟩).set b7 ⟨1, 32, [[x]]⟩ ∧
    tm 1 = I f ∧ tm 2 = .vptr [[.vsl (h.map rFault) cl]] 0 0 ∧ tm 4 = .ptr b4 1 0 0 ∧ tm 6 = .vsl (L.map rI) cl1 ∧ tm 7 = .ptr b7 1 0 0 ∧ tm 18 = .vsl (L.map rI) cl1 ∧ tm 19 = I L.length ∧ tm 20 = I k) L.length ⟨0, H20, x0, rfl, by omega, by simpa using hgx, e40, e70, rfl, ?_⟩ ?_
  · simp +contextual -dsimp -implicitDefEqProofs (maxSteps := 5000000) only [go_sem, reduceIte, reduceCtorEq, Nat.reduceEqDiff, Nat.reduceBEq, Nat.reduceAdd, Nat.reduceLeDiff, Nat.reduceMul, Nat.reduceLT, Int.reduceEq, Int.reduceLT, Int.reduceLE]
  · rintro m tm H' ⟨k, H2, x, rfl, hk, hg, e4, e7, rfl, t1, t2, t4, t6, t7, t18, t19, t20⟩
    obtain ⟨r1, r2⟩ := one_grow hg
    simp +contextual -dsimp -implicitDefEqProofs (maxSteps := 5000000) only [go_sem, reduceIte, reduceCtorEq, Nat.reduceEqDiff, Nat.reduceBEq, Nat.reduceAdd, Nat.reduceLeDiff, Nat.reduceMul, Nat.reduceLT, Int.reduceEq, Int.reduceLT, Int.reduceLE, t1, t2, t4, t6, t7, t18, t19, t20, r1, r2, n3, n4]
    refine ⟨fun hk0 => ?_, fun hk0 => ?_⟩
    · have hx := hm (L.getD k default) (by rw [List.getD_eq_getElem?_getD, List.getElem?_eq_getElem hk0]; exact List.getElem_mem hk0)
      have i0 := hx.1
      have i2 := hx.2
      have i1 : (L.getD k default).toNat < h.length := by omega
      simp +contextual -dsimp -implicitDefEqProofs (maxSteps := 5000000) only [go_sem, reduceIte, reduceCtorEq, Nat.reduceEqDiff, Nat.reduceBEq, Nat.reduceAdd, Nat.reduceLeDiff, Nat.reduceMul, Nat.reduceLT, Int.reduceEq, Int.reduceLT, Int.reduceLE, t1, t2, t4, t6, t7, t18, t19, t20, r1, r2, n3, n4, hk0, i0, i2, i1]
      rintro b9 ⟨m1, m2, m3, m4, hb9⟩
      refine draw_intro [0, 0, 0, 3, 0, 0, 1, 2, 0, 2, 0, 2] _ (by kernel_rfl) (AHeap.le_refl _) ?_
      simp +contextual -dsimp -implicitDefEqProofs (maxSteps := 5000000) only [go_sem, reduceIte, reduceCtorEq, Nat.reduceEqDiff, Nat.reduceBEq, Nat.reduceAdd, Nat.reduceLeDiff, Nat.reduceMul, Nat.reduceLT, Int.reduceEq, Int.reduceLT, Int.reduceLE, t1, t2, t4, t6, t7, t18, t19, t20, r1, r2, n3, n4, hk0, i0, i2, i1, m1, m2, m3, m4]
      refine (c_Index _ _ _ _).det ?_
      simp +contextual -dsimp -implicitDefEqProofs (maxSteps := 5000000) only [go_sem, reduceIte, reduceCtorEq, Nat.reduceEqDiff, Nat.reduceBEq, Nat.reduceAdd, Nat.reduceLeDiff, Nat.reduceMul, Nat.reduceLT, Int.reduceEq, Int.reduceLT, Int.reduceLE, t1, t2, t4, t6, t7, t18, t19, t20, r1, r2, n3, n4, hk0, i0, i2, i1, m1, m2, m3, m4]
      refine (c_Index _ _ _ _).det ?_
      simp +contextual -dsimp -implicitDefEqProofs (maxSteps := 5000000) only [go_sem, reduceIte, reduceCtorEq, Nat.reduceEqDiff, Nat.reduceBEq, Nat.reduceAdd, Nat.reduceLeDiff, Nat.reduceMul, Nat.reduceLT, Int.reduceEq, Int.reduceLT, Int.reduceLE, t1, t2, t4, t6, t7, t18, t19, t20, r1, r2, n3, n4, hk0, i0, i2, i1, m1, m2, m3, m4, hb9]
      have e74 : (H2.set b4 ⟨1, 32, [[.vsl [] true]]⟩) b7 = none := by rw [set_other n3]; exact e7
      refine grow_append (m := [isoAt h L (L.getD k default)]) te30 ti56 rFault_len (by decide) (grow_in (grow_in hg e4) e74) (by simp; omega) (by simp; omega) rfl fun x' H' hg' => ?_
      have f4 := grow_none hg e4
      have f7 := grow_none hg e7
      obtain ⟨G1, hg1, rfl, u7⟩ := grow_out hg' (by rw [set_other n3]; exact f7)
      obtain ⟨G3, hg3, rfl, u4⟩ := grow_out hg1 f4
      obtain ⟨r3, r4⟩ := one_grow hg3
      rw [set_other n3] at u7
      simp +contextual -dsimp -implicitDefEqProofs (maxSteps := 5000000) only [go_sem, reduceIte, reduceCtorEq, Nat.reduceEqDiff, Nat.reduceBEq, Nat.reduceAdd, Nat.reduceLeDiff, Nat.reduceMul, Nat.reduceLT, Int.reduceEq, Int.reduceLT, Int.reduceLE, t1, t2, t4, t6, t7, t18, t19, t20, r1, r2, r3, r4, n3, n4, hk0, i0, i2, i1, m1, m2, m3, m4]
      exact ⟨_, by omega, k + 1, G3, x', rfl, hk0, by rw [List.take_succ_eq_append_getElem hk0, List.map_append]; simpa [List.getD_eq_getElem?_getD, hk0] using hg3, u4, u7, rfl, I_wrap (by omega) (by omega) (by omega)⟩
    · refine draw_intro [1, 0, 0, 3, 2, 0] _ (by kernel_rfl) (AHeap.le_refl _) ?_
      simp +contextual -dsimp -implicitDefEqProofs (maxSteps := 5000000) only [go_sem, reduceIte, reduceCtorEq, Nat.reduceEqDiff, Nat.reduceBEq, Nat.reduceAdd, Nat.reduceLeDiff, Nat.reduceMul, Nat.reduceLT, Int.reduceEq, Int.reduceLT, Int.reduceLE, t1, t2, t4, t6, t7, t18, t19, t20, r1, r2, n3, n4]
      refine (c_Index _ _ _ _).det ?_
      simp +contextual -dsimp -implicitDefEqProofs (maxSteps := 5000000) only [go_sem, reduceIte, reduceCtorEq, Nat.reduceEqDiff, Nat.reduceBEq, Nat.reduceAdd, Nat.reduceLeDiff, Nat.reduceMul, Nat.reduceLT, Int.reduceEq, Int.reduceLT, Int.reduceLE, t1, t2, t4, t6, t7, t18, t19, t20, r1, r2, n3, n4]
      rw [List.take_of_length_le (by omega)] at hg
      refine retR_less (l := [.agg [x], I (idxF (fun x => decide (f = x)) L)]) (H' := H2) ?_ (fun c k hc => ?_) ⟨x, rfl, hg⟩
      · simp only [resA, ↓aw_skip, ↓aw_ret, ↓aw_exit, ↓aw_region, ↓aw_draw, ↓aw_seq, ↓aw_block, ↓aw_loop, ↓aw_cond, ↓frz_nil, ↓frz_cons, frzV_ptr, frzV_sl, frzK_some, set_none, set_other, AHeap.set_self, set_del, set_set, cnd_t, cnd_f, cnd_b, ↓sq_normal, ↓sq_ret, ↓sq_exit, ↓exB_normal, ↓exB_ret, ↓exB_same, ↓exB_other, ↓retQ_ret, ↓retQ_normal, ↓ret0_ret, ↓ret0_normal, retA_one, retA_two, retA_three, retA_four, retA_nil, ↓ao_nil, ↓go1, ↓g_move, ↓g_assign, ↓g_pick, ↓g_build, ↓g_load, ↓g_binOp, ↓g_unOp, ↓g_convert, ↓g_fieldAddr, ↓g_field, ↓g_indexAddr, ↓g_index, ↓g_extract, ↓g_slice, ↓g_nilCheck, ↓g_len, ↓g_makeFunc, ↓h_call, ↓h_append, ↓h_alloc, ↓h_box, ↓h_buildSlice, ↓h_makeSlice, ↓h_store, gIf_b, mrgV_b, mrgV_wh, mrgV_U, gIf_U, gIf_wh, mrgB_f, mrgB_some, mrgB_if, wh_true, wh_false, keepA_some, keepA_if, ↓gV, gD_zero, gD_succ, gT_some, ↓i_box, ↓i_buildSlice, bxA_t, bxA_f, ↓i_move, ↓i_assign, ↓i_build, ↓i_load, ↓i_binOp, ↓i_unOp, ↓i_convert, ↓i_fieldAddr, ↓i_field, ↓i_indexAddr, ↓i_index, ↓i_extract, ↓i_slice, ↓i_nilCheck, ↓i_makeFunc, ↓i_len, ↓i_max, ↓i_min, ↓i_alloc, ↓i_makeSlice, ↓i_store, ↓i_append, ↓i_call, ↓i_pick, ↓boxI, ↓boxA, ↓buildSliceI, ↓buildSliceA, ↓makeSliceA, ↓allocA, ↓storeA, ↓p_move, ↓p_assign, ↓p_pick, ↓p_build, ↓p_load, ↓p_binOp, ↓p_unOp, ↓p_convert, ↓p_fieldAddr, ↓p_field, ↓p_indexAddr, ↓p_index, ↓p_extract, ↓p_slice, ↓p_nilCheck, ↓p_makeFunc, ↓p_len, ↓p_max, ↓p_min, ↓p_alloc, ↓p_box, ↓p_buildSlice, ↓p_makeSlice, ↓p_store, ↓p_append, ↓p_call, callA_fn, ev_tmp, ev_const, ev_global, ev_func, oc_bool, oc_int, oc_string, oc_nil, oc_nilptr, oc_nilfunc, cl_bool, cl_int, cl_string, cl_nil, updO_some, updO_none, upd_same, upd_other, init_at, pickA_b, pickA_wh, selA_t, selA_f, selA_and, selA_or, selA_orn, selA_orm, selA_bb, selA_ii, beqt, b_add, b_sub, b_mul, b_and, b_or, b_xor, b_eql, b_neq, b_lss, b_leq, b_gtr, b_geq, b_quo, b_rem, b_shr, b_seql, b_sneq, b_sadd, b_beql, b_bneq, b_aeql, b_aneq, u_not, u_neg, isConstOp, eqA, eqCellV, List.getD_cons_zero, List.getD_cons_succ, List.map_cons, List.map_nil, List.nil_append, List.cons_append, List.append_nil, if_true, if_false, Option.map_some, Option.map_none, reduceIte, reduceCtorEq, Nat.reduceEqDiff, ne_eq, not_false_eq_true, Nat.reduceBEq, oneA, ldv, ld1v, ld1s, wr1s, ldRow, stRow, row_lit, row_agg, row_vsl, row_sl, row_ptr, row_fn, one_I, one_B, one_S, one_vsl, one_sl, one_ptr, one_fn, extractA, okA, rI, rS, rU, rClass, rFault, rExit, rStart, rLine, Int.toNat_natCast, List.length_cons, List.length_nil, List.length_map, List.all_cons, List.all_nil, Bool.and_true, Nat.reduceAdd, Nat.zero_add, List.getElem?_cons_zero, List.getElem?_cons_succ, List.take_succ_cons, List.take_zero, List.drop_succ_cons, List.drop_zero, Nat.reduceLeDiff, and_self, true_and, and_true, implies_true, decide_eq_true_eq, decide_eq_false_iff_not, Bool.or_eq_true, Bool.or_eq_false_iff, Bool.and_eq_true, Bool.not_eq_true', Bool.not_eq_false', beq_false, decide_true, decide_false, Int.ofNat_lt, Int.ofNat_le, Int.natCast_nonneg, Bool.or_true, Bool.or_false, Bool.true_or, Bool.false_or, beq_self_eq_true, Nat.reduceMul, List.drop_one, Bool.not_true, Bool.not_false, Bool.not_not, Bool.false_eq_true, Bool.true_eq_false, false_implies, true_implies, Bool.true_and, Bool.false_and, Bool.and_false, if_true, if_false, not_true_eq_false, Nat.reduceLT, Int.natCast_eq_zero, Int.natCast_pos, Int.natCast_zero, false_and, and_false, or_false, false_or, or_true, true_or, Bool.or_self, ↓x_nil, ↓x_go1, ↓x_g0, ↓x_g1, ↓x_g2, ↓x_g3, ↓x_s0, ↓x_s1, ↓x_s2, ↓x_s3, none_le_iff, ↓u_move, ↓u_assign, ↓u_pick, ↓u_build, ↓u_load, ↓u_binOp, ↓u_unOp, ↓u_convert, ↓u_fieldAddr, ↓u_field, ↓u_indexAddr, ↓u_index, ↓u_extract, ↓u_slice, ↓u_nilCheck, ↓u_makeFunc, ↓u_len, List.replicate_zero, Int.toNat_zero, List.replicate_succ, buildRows, List.set_cons_zero, List.set_cons_succ, List.set_nil, List.mapM_nil, maxLen_eq, Nat.zero_le, Nat.mul_one, Nat.one_mul, bldA, fillA, spliceA, List.take_nil, List.drop_nil, List.getElem?_nil, Int.reduceEq, Int.reduceLT, Int.reduceLE, decide_eq_true_eq, ld1o, wr1o, ↓u_buildSlice, bldSliceA, le_same, ti1, ti2, tk2, ti3, te3, ts3, tk3, tz3, ti4, tb4, ti5, tk5, tz5, ti9, te9, ts9, tk9, tz9, ti12, tk12, ti13, tp13, tf13_0, tf13_1, ti20, ti21, tk21, tz21, ti22, te22, ti23, tp23, tf23_0, ti24, tp24, tf24_0, ti25, te25, ti27, ti28, ti29, te29, ti30, te30, ti31, tp31, tf31_0, ti32, tp32, tf32_0, ti33, tp33, tf33_0, tf33_1, tf33_2, tf33_3, ti34, tp34, tf34_0, tf34_1, tf34_2, tf34_3, ti35, ti36, tq36, tp36, tf36_0, tf36_1, tf36_2, tf36_3, ti37, tq37, tp37, tf37_0, tf37_1, tf37_2, tf37_3, ti38, ti39, ti40, ti41, ti42, ti43, ti44, te44, tz44, ti46, ti47, ti48, ti49, ti50, ti51, ti52, tq52, tp52, tf52_0, tf52_1, ti53, tq53, tp53, tf53_0, tf53_1, ti54, ti55, tq55, tp55, tf55_0, tf55_1, tf55_2, tf55_3, tf55_4, ti56, tq56, tp56, tf56_0, tf56_1, tf56_2, tf56_3, tf56_4, ti57, ti58, ti59, ti60, ti61, ti62, ti63, ti64, ti65, ti66, ti67, ti68, ti69, ti70, tp70, tf70_0, tf70_1, tf70_2, tf70_3, tf70_4, ti71, tp71, tf71_0, tf71_1, tf71_2, tf71_3, tf71_4, ti73, ti74, ti75, ti76, ti77, ti78, ti79, ti80, tq80, tp80, tf80_0, tf80_1, ti81, tq81, tp81, tf81_0, tf81_1, ti82, ti83, ti84, ti85, ti86, ti87, ti88, ti89, ti90, tp90, tf90_0, tf90_1, ti91, tp91, tf91_0, tf91_1, ti92, ti93, ti94, ti95, ti96, ti97, ti98, ti99, ti100, ti101, ti102, ti103, te103, ti104, ti105, ti106, ti107, ti108, ti109, ti110, ti111, ti112, tk112, tz112, ti113, ti114, ti115, tk115, ti117, ti118, ti119, ti121, ti122, ti123, tk123, tz123, ti124, ti125, tk125, tz125, ti126, ti127, tk127, ti128, ti129, ti130, ti131, ti132, ti133, ti135, ti136, ti142, ti146, fp13_0, fv13_0, fp13_1, fv13_1, fp23_0, fv23_0, fp24_0, fv24_0, fp31_0, fv31_0, fp32_0, fv32_0, fp33_0, fv33_0, fp33_1, fv33_1, fp33_2, fv33_2, fp33_3, fv33_3, fp34_0, fv34_0, fp34_1, fv34_1, fp34_2, fv34_2, fp34_3, fv34_3, fp36_0, fv36_0, fp36_1, fv36_1, fp36_2, fv36_2, fp36_3, fv36_3, fp37_0, fv37_0, fp37_1, fv37_1, fp37_2, fv37_2, fp37_3, fv37_3, fp52_0, fv52_0, fp52_1, fv52_1, fp53_0, fv53_0, fp53_1, fv53_1, fp55_0, fv55_0, fp55_1, fv55_1, fp55_2, fv55_2, fp55_3, fv55_3, fp55_4, fv55_4, fp56_0, fv56_0, fp56_1, fv56_1, fp56_2, fv56_2, fp56_3, fv56_3, fp56_4, fv56_4, fp70_0, fv70_0, fp70_1, fv70_1, fp70_2, fv70_2, fp70_3, fv70_3, fp70_4, fv70_4, fp71_0, fv71_0, fp71_1, fv71_1, fp71_2, fv71_2, fp71_3, fv71_3, fp71_4, fv71_4, fp80_0, fv80_0, fp80_1, fv80_1, fp81_0, fv81_0, fp81_1, fv81_1, fp90_0, fv90_0, fp90_1, fv90_1, fp91_0, fv91_0, fp91_1, fv91_1, lv22, ll22, is22, ix22, sh22, so22, sb22, sm22, sp22, lv25, ll25, is25, ix25, sh25, so25, sb25, sm25, sp25, lv29, ll29, is29, ix29, sh29, so29, sb29, sm29, sp29, lv30, ll30, is30, ix30, sh30, so30, sb30, sm30, sp30, lv44, ll44, is44, ix44, sh44, so44, sb44, sm44, sp44, lv103, ll103, is103, ix103, sh103, so103, sb103, sm103, sp103, xs9, ls9, sx9, sy9, sz9, n3, n4, t4, ld_o, ldO_1]
      · have c1 : c ≠ b4 := fun e => by rw [e, e4] at hc; cases hc
        have c2 : c ≠ b7 := fun e => by rw [e, e7] at hc; cases hc
        rw [set_other c2, set_other c1]; exact hc
theorem c_misolate (h : List Fault) (cl : Bool) (f : Int) (H : AHeap) (hl : h.length ≤ 999999) (h0 : 0 ≤ f) (h1 : f < h.length) (hlk : ∀ k, k < h.length → (h.getD k default).cause < h.length ∧ (h.getD k default).ctx < h.length) (hm : ∀ a ∈ sortI (bfsF h f), 0 ≤ a ∧ a < h.length) (hll : (sortI (bfsF h f)).length ≤ 999999) :
    ACalls Try.prog 43 [aHeap h cl, I f] H fun r H' => (∃ cl', r = .tup [aHeap (isoL h (sortI (bfsF h f))) cl', I (idxF (fun x => decide (f = x)) (sortI (bfsF h f)))]) ∧ H' = H := by
  refine acalls_fz (c_misolate0 h cl f H hl h0 h1 hlk hm hll) ?_
  rintro _ H' ⟨x, rfl, hg⟩
  obtain ⟨cl', hz⟩ := grow_fz hg
  exact ⟨_, H, grow_le hg, fz_tup (.cons (fz_agg (.cons hz .nil)) (.refl _)), ⟨cl', rfl⟩, rfl⟩

theorem rFault_nov (y : Fault) : ∀ c ∈ rFault y, NoV c := by
  intro c hc
  simp only [rFault, List.mem_cons, List.not_mem_nil, or_false] at hc
  rcases hc with rfl | rfl | rfl | rfl | rfl <;> exact .lit _
theorem bfsF_ne (h : List Fault) (f : Int) : bfsF h f ≠ [] := by
  have key : ∀ (n i : Nat) (out : List Int), out ≠ [] → bfsG h n i out ≠ [] := by
    intro n
    induction n with
    | zero => intro i out hne; exact hne
    | succ n ih =>
      intro i out hne
      simp only [bfsG]
      split
      · refine ih _ _ fun e => hne ?_
        have h1 := addF_len out (causeOf h (out.getD i default))
        have h2 := addF_len (addF out (causeOf h (out.getD i default))) (ctxOf h (out.getD i default))
        rw [e] at h2
        exact List.eq_nil_of_length_eq_zero (by simp only [List.length_nil] at h2; omega)
      · exact hne
  exact key _ _ _ (by simp)
theorem sortI_ne {l : List Int} (h : l ≠ []) : sortI l ≠ [] := fun e => h (List.eq_nil_of_length_eq_zero (by rw [← sortI_len, e]; rfl))
theorem bfsF_nums {h : List Fault} (hlk : ∀ k, k < h.length → (h.getD k default).cause < h.length ∧ (h.getD k default).ctx < h.length) {f : Int} (h0 : 0 ≤ f) (h1 : f < h.length) : Nums h.length (bfsF h f) := by
  have key : ∀ (n i : Nat) (out : List Int), Nums h.length out → Nums h.length (bfsG h n i out) := by
    intro n
    induction n with
    | zero => intro i out h; exact h
    | succ n ih =>
      intro i out hn
      simp only [bfsG]
      split
      · rename_i hi
        have hm := hn.mem (out.getD i default) (by rw [List.getD_eq_getElem?_getD, List.getElem?_eq_getElem hi]; exact List.getElem_mem hi)
        have hk := hlk (out.getD i default).toNat (by omega)
        exact ih _ _ ((hn.add hk.1).add hk.2)
      · exact hn
  exact key _ _ _ (Nums.one h0 h1)
theorem sortI_mem {l : List Int} {a : Int} : a ∈ sortI l ↔ a ∈ l := List.mem_mergeSort
theorem heapOk_links {fs : List Fault} (ho : heapOk fs) : ∀ k, k < fs.length → (fs.getD k default).cause < fs.length ∧ (fs.getD k default).ctx < fs.length := fun k hk => by
  have := ho k hk; omega

/-- What is left of a machine. -/
theorem c_ClipX (l : List Int) (x : AV) (H0 H : AHeap) (hg : Grow rI 1 3 H0 H x l) : ∃ x', Grow rI 1 3 H0 H x' l ∧ ∀ K, ACalls Try.prog 42 [x] K fun r K' => r = x' ∧ K' = K := by
  rcases hg with ⟨rfl, rfl, rfl⟩ | ⟨b, cl, hb, rfl, rfl⟩
  · exact ⟨.vsl [] true, .inl ⟨rfl, rfl, rfl⟩, fun K => c_ClipV [] true K⟩
  · refine ⟨.sl b 1 0 l.length true, .inr ⟨b, true, hb, rfl, rfl⟩, fun K => ?_⟩
    refine acalls_of0 Try.func42 rfl (by kernel_rfl) rfl rfl (awp_sound (fz := fun _ => []) (im := fun _ => false) mixed _ _ _ _ (by kernel_rfl) ?_)
    simp +contextual -dsimp -implicitDefEqProofs (maxSteps := 5000000) only [go_sem, reduceIte, reduceCtorEq, Nat.reduceEqDiff, Nat.reduceBEq, Nat.reduceAdd, Nat.reduceLeDiff, Nat.reduceMul, Nat.reduceLT, Int.reduceEq, Int.reduceLT, Int.reduceLE]
    simp
theorem c_misolateG (fs : List Fault) (x : AV) (val : Int) (H0 H : AHeap) (hg : Grow rFault 5 56 H0 H x fs) (K : ABlk) (c : Nat) (ho : heapOk fs) (hl : fs.length ≤ 999999) (h0 : 0 ≤ val) (h1 : val < fs.length) :
    ACalls Try.prog 43 [.agg [x], I val] H fun r H' => ∃ y, r = .tup [.agg [y], I (idxF (fun x => decide (val = x)) (sortI (bfsF fs val)))] ∧ Grow rFault 5 56 H H' y (isoL fs (sortI (bfsF fs val))) := by
  obtain ⟨cl, hz⟩ := grow_froz hg
  have hn := bfsF_nums (heapOk_links ho) h0 h1
  have hm : ∀ a ∈ sortI (bfsF fs val), 0 ≤ a ∧ a < fs.length := fun a ha => hn.mem a (sortI_mem.1 ha)
  have hlen : (sortI (bfsF fs val)).length ≤ 999999 := by rw [sortI_len]; have := hn.free; omega
  refine acalls_borrowX [aHeap fs cl, I val] (.cons (.agg rfl ?_) (.cons (.same _) .nil)) (c_misolate0 fs cl val AHeap.none hl h0 h1 (heapOk_links ho) hm hlen) ?_
  · intro i c c' q1 q2
    cases i with
    | zero => simp at q1 q2; subst q1; subst q2; exact hz
    | succ i => simp at q1
  · rintro _ K ⟨y, rfl, hy⟩
    have hne : isoL fs (sortI (bfsF fs val)) ≠ [] := fun e => sortI_ne (bfsF_ne fs val) (by simpa [isoL] using e)
    obtain ⟨v1, v2⟩ := grow_nov hy hne rFault_nov
    refine ⟨.tup _ ?_, v2, fun hd => ⟨y, rfl, grow_un hy hd⟩⟩
    intro c hc
    simp only [List.mem_cons, List.not_mem_nil, or_false] at hc
    rcases hc with rfl | rfl
    · exact .agg _ fun c hc => by simp at hc; subst hc; exact v1
    · exact .lit _
theorem c_mresult (F H : AHeap) (bm : Nat) (t p : AV) (log : List Int) (fs : List Fault) (first : Int) (ed val : Int) (hM : Mach F H bm t p log fs first) (ho : heapOk fs) (hl : fs.length ≤ 999999) (hv : ed = 2 → 0 ≤ val ∧ val < fs.length) :
    ACalls Try.prog 24 [.ptr bm 5 0 0, .agg [I ed, I val]] H fun r H' => ∃ xl xh G1, r = .agg [xl, I ed, I (if ed = 2 then idxF (fun x => decide (val = x)) (sortI (bfsF fs val)) else val), xh] ∧ Grow rI 1 3 F G1 xl log ∧ Grow rFault 5 56 G1 H' xh (if ed = 2 then isoL fs (sortI (bfsF fs val)) else []) := by
  obtain ⟨xl, xf, H1, H2, hF, hg1, hg2, hb, rfl⟩ := hM
  obtain ⟨xl', hgl, hclip⟩ := c_ClipX log xl F H1 hg1
  obtain ⟨r1, r2⟩ := one_grow hgl
  refine acalls_of1 Try.func24 rfl (by kernel_rfl) rfl rfl (awp_sound (fz := fun _ => []) (im := fun s => s == 3) mixed _ _ _ _ (by kernel_rfl) ?_)
  simp +contextual -dsimp -implicitDefEqProofs (maxSteps := 5000000) only [go_sem, reduceIte, reduceCtorEq, Nat.reduceEqDiff, Nat.reduceBEq, Nat.reduceAdd, Nat.reduceLeDiff, Nat.reduceMul, Nat.reduceLT, Int.reduceEq, Int.reduceLT, Int.reduceLE]
  rintro b4 ⟨n1, n2, hb4⟩
  refine draw_introQ [4] [0, 0, 0, 1, 4, 0, 1, 0, 1, 0, 3, 2] (fun _ => xl') _ (by kernel_rfl) (AHeap.le_refl _) ?_
  simp +contextual -dsimp -implicitDefEqProofs (maxSteps := 5000000) only [go_sem, reduceIte, reduceCtorEq, Nat.reduceEqDiff, Nat.reduceBEq, Nat.reduceAdd, Nat.reduceLeDiff, Nat.reduceMul, Nat.reduceLT, Int.reduceEq, Int.reduceLT, Int.reduceLE, n1, n2]
  refine ⟨fun H' _ => hclip H', ?_⟩
  simp +contextual -dsimp -implicitDefEqProofs (maxSteps := 5000000) only [go_sem, reduceIte, reduceCtorEq, Nat.reduceEqDiff, Nat.reduceBEq, Nat.reduceAdd, Nat.reduceLeDiff, Nat.reduceMul, Nat.reduceLT, Int.reduceEq, Int.reduceLT, Int.reduceLE, n1, n2, r1, r2]
  rintro b5 ⟨m1, m2, m3, m4, hb5⟩
  have hbm5 : (H2.set bm ⟨5, 71, [[t, p, xl, xf, I first]]⟩) b5 = none := by rw [set_other m3]; exact hb5
  have hbm4 : (H2.set bm ⟨5, 71, [[t, p, xl, xf, I first]]⟩) b4 = none := by rw [set_other n1]; exact hb4
  have hle0 : ∀ K L : ABlk, AHeap.le ((H2.set bm ⟨5, 71, [[t, p, xl, xf, I first]]⟩).set b4 K) (((H2.set bm ⟨5, 71, [[t, p, xl, xf, I first]]⟩).set b4 K).set b5 L) := fun K L => le_set (by rw [set_other m1]; exact hbm5)
  by_cases he : ed = 2
  · obtain ⟨v1, v2⟩ := hv he
    simp +contextual -dsimp -implicitDefEqProofs (maxSteps := 5000000) only [go_sem, reduceIte, reduceCtorEq, Nat.reduceEqDiff, Nat.reduceBEq, Nat.reduceAdd, Nat.reduceLeDiff, Nat.reduceMul, Nat.reduceLT, Int.reduceEq, Int.reduceLT, Int.reduceLE, n1, n2, m1, m2, m3, m4, r1, r2, he]
    refine ⟨hle0 _ _, ?_⟩
    refine draw_intro [0, 0, 0, 0, 0, 0, 2, 0, 0, 0, 0, 2, 0, 2] AHeap.none (by kernel_rfl) none_le ?_
    simp +contextual -dsimp -implicitDefEqProofs (maxSteps := 5000000) only [go_sem, reduceIte, reduceCtorEq, Nat.reduceEqDiff, Nat.reduceBEq, Nat.reduceAdd, Nat.reduceLeDiff, Nat.reduceMul, Nat.reduceLT, Int.reduceEq, Int.reduceLT, Int.reduceLE, n1, n2, m1, m2, m3, m4, r1, r2, he]
    refine (c_misolateG fs xf val _ _ (grow_in (grow_in (grow_in hg2 hb) hbm4) (by rw [set_other m1]; exact hbm5)) ⟨0, 0, []⟩ 0 ho hl v1 v2).mono ?_
    rintro _ H' ⟨y, rfl, hy⟩
    obtain ⟨G1, hy1, rfl, u5⟩ := grow_out hy (by rw [set_other m1]; exact hbm5)
    obtain ⟨G2, hy2, rfl, u4⟩ := grow_out hy1 hbm4
    obtain ⟨G3, hy3, rfl, u3⟩ := grow_out hy2 hb
    obtain ⟨G4, hy4, hy5⟩ := grow_swap hg2 hy3
    obtain ⟨r3, r4⟩ := one_grow hy4
    simp +contextual -dsimp -implicitDefEqProofs (maxSteps := 5000000) only [go_sem, reduceIte, reduceCtorEq, Nat.reduceEqDiff, Nat.reduceBEq, Nat.reduceAdd, Nat.reduceLeDiff, Nat.reduceMul, Nat.reduceLT, Int.reduceEq, Int.reduceLT, Int.reduceLE, n1, n2, m1, m2, m3, m4, r1, r2, r3, r4, he]
    refine retR_less (l := [.agg [xl', I 2, I (idxF (fun x => decide (val = x)) (sortI (bfsF fs val))), y]]) (H' := G4) ?_ ?_ ⟨xl', y, H1, rfl, hgl, hy4⟩
    · simp only [resA, go_sem, reduceIte, reduceCtorEq, Nat.reduceEqDiff, Nat.reduceBEq, Nat.reduceAdd, Nat.reduceLeDiff, Nat.reduceMul, Nat.reduceLT, Int.reduceEq, Int.reduceLT, Int.reduceLE, n1, n2, m1, m2, m3, m4]
    · refine AHeap.le_trans (grow_le hy5) (AHeap.le_trans (le_set u3) (AHeap.le_trans (le_set u4) (le_set (by rw [set_other m1] at u5 ⊢; exact u5))))
  · simp +contextual -dsimp -implicitDefEqProofs (maxSteps := 5000000) only [go_sem, reduceIte, reduceCtorEq, Nat.reduceEqDiff, Nat.reduceBEq, Nat.reduceAdd, Nat.reduceLeDiff, Nat.reduceMul, Nat.reduceLT, Int.reduceEq, Int.reduceLT, Int.reduceLE, n1, n2, m1, m2, m3, m4, r1, r2, he]
    refine ⟨hle0 _ _, ?_⟩
    refine retR_less (l := [.agg [xl', I ed, I val, .vsl [] true]]) (H' := H1) ?_ ?_ ⟨xl', .vsl [] true, H1, rfl, hgl, .inl ⟨rfl, rfl, rfl⟩⟩
    · simp only [resA, go_sem, reduceIte, reduceCtorEq, Nat.reduceEqDiff, Nat.reduceBEq, Nat.reduceAdd, Nat.reduceLeDiff, Nat.reduceMul, Nat.reduceLT, Int.reduceEq, Int.reduceLT, Int.reduceLE, n1, n2, m1, m2, m3, m4]
    · exact AHeap.le_trans (grow_le hg2) (AHeap.le_trans (le_set hb) (AHeap.le_trans (le_set hbm4) (hle0 _ _)))
end Go.Proofs.Ytbjgilehnlpmaaa
end
section
set_option linter.unusedVariables false
set_option linter.unusedSimpArgs false
namespace Go.Proofs.Ytbjgilehnlpmaaa
open Go Go.Sim
set_option maxRecDepth 100000

/-- A result of its own blocks. -/
def OwnRes (F H : AHeap) (r : AV) (R : Res) : Prop := ∃ xl xh G1, r = .agg [xl, I R.ed, I R.val, xh] ∧ Grow rI 1 3 F G1 xl R.log ∧ Grow rFault 5 56 G1 H xh R.heap
def res0 : Res := ⟨[], 0, 0, []⟩
theorem own0 (H : AHeap) : OwnRes H H (.agg [.vsl [] true, I 0, I 0, .vsl [] true]) res0 := ⟨_, _, H, rfl, .inl ⟨rfl, rfl, rfl⟩, .inl ⟨rfl, rfl, rfl⟩⟩
theorem own_in {F H : AHeap} {r : AV} {R : Res} {c : Nat} {K : ABlk} (h : OwnRes F H r R) (hc : H c = none) : OwnRes (F.set c K) (H.set c K) r R := by
  obtain ⟨xl, xh, G1, h1, h2, h3⟩ := h
  exact ⟨xl, xh, G1.set c K, h1, grow_in h2 (grow_none h3 hc), grow_in h3 hc⟩
theorem own_out {F H : AHeap} {r : AV} {R : Res} {c : Nat} {K : ABlk} (h : OwnRes (F.set c K) H r R) (hc : F c = none) : ∃ H', H = H'.set c K ∧ OwnRes F H' r R ∧ H' c = none := by
  obtain ⟨xl, xh, G1, h1, h2, h3⟩ := h
  obtain ⟨G2, k1, rfl, k2⟩ := grow_out h2 hc
  obtain ⟨G3, k3, rfl, k4⟩ := grow_out h3 k2
  exact ⟨G3, rfl, ⟨xl, xh, G2, h1, k1, k3⟩, k4⟩
theorem own_row {F H : AHeap} {r : AV} {R : Res} (h : OwnRes F H r R) : ∃ xl xh, r = .agg [xl, I R.ed, I R.val, xh] ∧ xl.one = true ∧ xh.one = true := by
  obtain ⟨xl, xh, G1, h1, h2, h3⟩ := h
  exact ⟨xl, xh, h1, (one_grow h2).2, (one_grow h3).2⟩
abbrev aRes (R : Res) (c1 c2 : Bool) : AV := .agg [.vsl (R.log.map rI) c1, I R.ed, I R.val, .vsl (R.heap.map rFault) c2]
theorem own_frz {P : Program} {f : FuncId} {args : List AV} {H : AHeap} {R : Res} (h : ACalls P f args H fun r H' => OwnRes H H' r R) : ACalls P f args H fun r H' => (∃ c1 c2, r = aRes R c1 c2) ∧ H' = H := by
  refine acalls_fz h ?_
  rintro _ H' ⟨xl, xh, G1, rfl, h2, h3⟩
  have hle := AHeap.le_trans (grow_le h2) (grow_le h3)
  obtain ⟨c2, z2⟩ := grow_fz h3
  have hz1 : ∃ c1, Fz H' H xl (.vsl (R.log.map rI) c1) := by
    rcases h2 with ⟨e1, e2, e3⟩ | ⟨b, cl, hb, rfl, rfl⟩
    · rw [e1, e2]; exact ⟨true, .same _⟩
    · refine ⟨cl, ?_⟩
      have hk : H' b = some ⟨1, 3, R.log.map rI⟩ := grow_le h3 b _ (AHeap.set_self ..)
      have := Fz.sl (H := H') (K := H) (b := b) (sz := 1) (off := 0) (len := R.log.length) (cl := cl) hk rfl (by simp) hb
      simpa [List.take_of_length_le] using this
  have hz2 : ∃ c2, Fz H' H xh (.vsl (R.heap.map rFault) c2) := by
    rcases h3 with ⟨e1, e2, e3⟩ | ⟨b, cl, hb, rfl, rfl⟩
    · rw [e1, e2]; exact ⟨true, .same _⟩
    · refine ⟨cl, ?_⟩
      have hn : H b = none := by
        cases hq : H b with
        | none => rfl
        | some k => rw [grow_le h2 b k hq] at hb; cases hb
      have := Fz.sl (H := G1.set b ⟨5, 56, R.heap.map rFault⟩) (K := H) (b := b) (sz := 5) (off := 0) (len := R.heap.length) (cl := cl) (AHeap.set_self ..) rfl (by simp) hn
      simpa [List.take_of_length_le] using this
  obtain ⟨c1, z1⟩ := hz1
  obtain ⟨c2, z2⟩ := hz2
  exact ⟨_, H, hle, fz_agg (.cons z1 (.cons (.same _) (.cons (.same _) (.cons z2 .nil)))), ⟨c1, c2, rfl⟩, rfl⟩

/-- What the program's exits end with. -/
def resM (s : Clo) : Res :=
  if 0 ≤ s.cur then ⟨s.log, 2, idxF (fun x => decide (s.cur = x)) (sortI (bfsF s.fs s.cur)), isoL s.fs (sortI (bfsF s.fs s.cur))⟩ else ⟨s.log, 0, 0, []⟩
theorem closeX_ok {t : List Class} {l : List Exi} {x : Sta} (hv : validX t l = true) (hs : startOk t x = true) : CloOk t (closeX t l x) l.length := by
  have key : ∀ k, k ≤ l.length → CloOk t ((l.reverse.take k).foldl (stepX t) (startX x)) k := by
    intro k
    induction k with
    | zero => intro _; exact CloOk.start hs
    | succ k ih =>
      intro hk
      rw [rev_take hk, List.foldl_append]
      exact (ih (by omega)).step (validX_at hv (by omega))
  have := key l.length (Nat.le_refl _)
  rw [List.take_of_length_le (by simp)] at this
  exact this
end Go.Proofs.Ytbjgilehnlpmaaa
end
section
set_option linter.unusedVariables false
set_option linter.unusedSimpArgs false
namespace Go.Proofs.Ytbjgilehnlpmaaa
open Go Go.Sim
set_option maxRecDepth 100000
attribute [local go_sem ↓] aw_skip aw_ret aw_exit aw_region aw_draw aw_seq aw_block aw_loop aw_cond frz_nil frz_cons sq_normal sq_ret sq_exit exB_normal exB_ret exB_same exB_other retQ_ret retQ_normal ret0_ret ret0_normal ao_nil go1 g_move g_assign g_pick g_build g_load g_binOp g_unOp g_convert g_fieldAddr g_field g_indexAddr g_index g_extract g_slice g_nilCheck g_len g_makeFunc h_call h_append h_alloc h_box h_buildSlice h_makeSlice h_store gV i_box i_buildSlice i_move i_assign i_build i_load i_binOp i_unOp i_convert i_fieldAddr i_field i_indexAddr i_index i_extract i_slice i_nilCheck i_makeFunc i_len i_max i_min i_alloc i_makeSlice i_store i_append i_call i_pick boxI boxA buildSliceI buildSliceA makeSliceA allocA storeA p_move p_assign p_pick p_build p_load p_binOp p_unOp p_convert p_fieldAddr p_field p_indexAddr p_index p_extract p_slice p_nilCheck p_makeFunc p_len p_max p_min p_alloc p_box p_buildSlice p_makeSlice p_store p_append p_call x_nil x_go1 x_g0 x_g1 x_g2 x_g3 x_s0 x_s1 x_s2 x_s3 u_move u_assign u_pick u_build u_load u_binOp u_unOp u_convert u_fieldAddr u_field u_indexAddr u_index u_extract u_slice u_nilCheck u_makeFunc u_len u_buildSlice x_s4 x_g4 rq_normal rq_ret rq_exit aw_range
attribute [local go_sem] frzV_sl frzK_some set_none set_other AHeap.set_self set_del set_set cnd_t cnd_f cnd_b retA_one retA_two retA_three retA_four retA_nil gIf_b mrgV_b mrgV_wh mrgV_U gIf_U gIf_wh mrgB_f mrgB_some mrgB_if wh_true wh_false keepA_some keepA_if gD_zero gD_succ gT_some bxA_t bxA_f callA_fn ev_tmp ev_const ev_global ev_func oc_bool oc_int oc_string oc_nil oc_nilptr oc_nilfunc cl_bool cl_int cl_string cl_nil updO_some updO_none upd_same upd_other init_at pickA_b pickA_wh selA_t selA_f selA_and selA_or selA_orn selA_orm selA_bb selA_ii beqt b_add b_sub b_mul b_and b_or b_xor b_eql b_neq b_lss b_leq b_gtr b_geq b_quo b_rem b_shr b_seql b_sneq b_sadd b_beql b_bneq b_aeql b_aneq u_not u_neg isConstOp eqA eqCellV List.getD_cons_zero List.getD_cons_succ List.map_cons List.map_nil List.nil_append List.cons_append List.append_nil if_true if_false Option.map_some Option.map_none ne_eq not_false_eq_true oneA ldv ld1v ld1s wr1s ldRow stRow row_lit row_agg row_vsl row_sl row_ptr row_fn one_I one_B one_S one_vsl one_sl one_ptr one_fn extractA okA rI rS rU rClass rFault rExit rStart rLine Int.toNat_natCast List.length_cons List.length_nil List.length_map List.all_cons List.all_nil Bool.and_true Nat.zero_add List.getElem?_cons_zero List.getElem?_cons_succ List.take_succ_cons List.take_zero List.drop_succ_cons List.drop_zero and_self true_and and_true implies_true decide_eq_true_eq decide_eq_false_iff_not Bool.or_eq_true Bool.or_eq_false_iff Bool.and_eq_true Bool.not_eq_true' Bool.not_eq_false' beq_false decide_true decide_false Int.ofNat_lt Int.ofNat_le Int.natCast_nonneg Bool.or_true Bool.or_false Bool.true_or Bool.false_or beq_self_eq_true List.drop_one Bool.not_true Bool.not_false Bool.not_not Bool.false_eq_true Bool.true_eq_false false_implies true_implies Bool.true_and Bool.false_and Bool.and_false not_true_eq_false Int.natCast_eq_zero Int.natCast_pos Int.natCast_zero false_and and_false or_false false_or or_true true_or Bool.or_self none_le_iff List.replicate_zero Int.toNat_zero List.replicate_succ buildRows List.set_cons_zero List.set_cons_succ List.set_nil List.mapM_nil maxLen_eq Nat.zero_le Nat.mul_one Nat.one_mul bldA fillA spliceA List.take_nil List.drop_nil List.getElem?_nil ld1o wr1o bldSliceA le_same cv_i cvI_t quietT_fn qvd_some ld_o ldO_1 ldO_l wr_o wrO_1 set_2 set_3 set_4 putL_nil putL_cons List.zip_cons_cons List.zip_nil_left List.zip_nil_right List.toList_toArray frzV_set ti1 ti2 tk2 ti3 te3 ts3 tk3 tz3 ti4 tb4 ti5 tk5 tz5 ti9 te9 ts9 tk9 tz9 ti12 tk12 ti13 tp13 tf13_0 tf13_1 ti20 ti21 tk21 tz21 ti22 te22 ti23 tp23 tf23_0 ti24 tp24 tf24_0 ti25 te25 ti27 ti28 ti29 te29 ti30 te30 ti31 tp31 tf31_0 ti32 tp32 tf32_0 ti33 tp33 tf33_0 tf33_1 tf33_2 tf33_3 ti34 tp34 tf34_0 tf34_1 tf34_2 tf34_3 ti35 ti36 tq36 tp36 tf36_0 tf36_1 tf36_2 tf36_3 ti37 tq37 tp37 tf37_0 tf37_1 tf37_2 tf37_3 ti38 ti39 ti40 ti41 ti42 ti43 ti44 te44 tz44 ti46 ti47 ti48 ti49 ti50 ti51 ti52 tq52 tp52 tf52_0 tf52_1 ti53 tq53 tp53 tf53_0 tf53_1 ti54 ti55 tq55 tp55 tf55_0 tf55_1 tf55_2 tf55_3 tf55_4 ti56 tq56 tp56 tf56_0 tf56_1 tf56_2 tf56_3 tf56_4 ti57 ti58 ti59 ti60 ti61 ti62 ti63 ti64 ti65 ti66 ti67 ti68 ti69 ti70 tp70 tf70_0 tf70_1 tf70_2 tf70_3 tf70_4 ti71 tp71 tf71_0 tf71_1 tf71_2 tf71_3 tf71_4 ti73 ti74 ti75 ti76 ti77 ti78 ti79 ti80 tq80 tp80 tf80_0 tf80_1 ti81 tq81 tp81 tf81_0 tf81_1 ti82 ti83 ti84 ti85 ti86 ti87 ti88 ti89 ti90 tp90 tf90_0 tf90_1 ti91 tp91 tf91_0 tf91_1 ti92 ti93 ti94 ti95 ti96 ti97 ti98 ti99 ti100 ti101 ti102 ti103 te103 ti104 ti105 ti106 ti107 ti108 ti109 ti110 ti111 ti112 tk112 tz112 ti113 ti114 ti115 tk115 ti117 ti118 ti119 ti121 ti122 ti123 tk123 tz123 ti124 ti125 tk125 tz125 ti126 ti127 tk127 ti128 ti129 ti130 ti131 ti132 ti133 ti135 ti136 ti142 ti146 fp13_0 fv13_0 fp13_1 fv13_1 fp23_0 fv23_0 fp24_0 fv24_0 fp31_0 fv31_0 fp32_0 fv32_0 fp33_0 fv33_0 fp33_1 fv33_1 fp33_2 fv33_2 fp33_3 fv33_3 fp34_0 fv34_0 fp34_1 fv34_1 fp34_2 fv34_2 fp34_3 fv34_3 fp36_0 fv36_0 fp36_1 fv36_1 fp36_2 fv36_2 fp36_3 fv36_3 fp37_0 fv37_0 fp37_1 fv37_1 fp37_2 fv37_2 fp37_3 fv37_3 fp52_0 fv52_0 fp52_1 fv52_1 fp53_0 fv53_0 fp53_1 fv53_1 fp55_0 fv55_0 fp55_1 fv55_1 fp55_2 fv55_2 fp55_3 fv55_3 fp55_4 fv55_4 fp56_0 fv56_0 fp56_1 fv56_1 fp56_2 fv56_2 fp56_3 fv56_3 fp56_4 fv56_4 fp70_0 fv70_0 fp70_1 fv70_1 fp70_2 fv70_2 fp70_3 fv70_3 fp70_4 fv70_4 fp71_0 fv71_0 fp71_1 fv71_1 fp71_2 fv71_2 fp71_3 fv71_3 fp71_4 fv71_4 fp80_0 fv80_0 fp80_1 fv80_1 fp81_0 fv81_0 fp81_1 fv81_1 fp90_0 fv90_0 fp90_1 fv90_1 fp91_0 fv91_0 fp91_1 fv91_1 lv22 ll22 is22 ix22 sh22 so22 sb22 sm22 sp22 lv25 ll25 is25 ix25 sh25 so25 sb25 sm25 sp25 lv29 ll29 is29 ix29 sh29 so29 sb29 sm29 sp29 lv30 ll30 is30 ix30 sh30 so30 sb30 sm30 sp30 lv44 ll44 is44 ix44 sh44 so44 sb44 sm44 sp44 lv103 ll103 is103 ix103 sh103 so103 sb103 sm103 sp103 xs9 ls9 sx9 sy9 sz9

theorem xor64 (x y : Nat) (hx : x < 4611686018427387904) (hy : y < 4611686018427387904) : ∃ z : Nat, bits .xor .i64 (x : Int) (y : Int) = z ∧ z < 4611686018427387904 := by
  refine ⟨x ^^^ y, ?_, Nat.xor_lt_two_pow (n := 62) hx hy⟩
  have hz : x ^^^ y < 4611686018427387904 := Nat.xor_lt_two_pow (n := 62) hx hy
  show IntKind.i64.wrap ((BitVec.ofInt 64 (x : Int) ^^^ BitVec.ofInt 64 (y : Int)).toNat : Int) = _
  have h1 : (BitVec.ofInt 64 (x : Int)).toNat = x := by rw [BitVec.ofInt_natCast, BitVec.toNat_ofNat]; exact Nat.mod_eq_of_lt (by omega)
  have h2 : (BitVec.ofInt 64 (y : Int)).toNat = y := by rw [BitVec.ofInt_natCast, BitVec.toNat_ofNat]; exact Nat.mod_eq_of_lt (by omega)
  rw [BitVec.toNat_xor, h1, h2, w64 (by omega) (by omega)]

/-- A reader that has been asked at most n times, in a block of its own. -/
def Rd (F H : AHeap) (br : Nat) (n : Nat) : Prop := ∃ (bs : List UInt8) (cb : Bool) (p : Nat), bs.length ≤ 2000 ∧ p ≤ n ∧ F br = none ∧ H = F.set br ⟨2, 91, [[.vsl (bs.map rU) cb, I p]]⟩
section
variable {F H : AHeap} {br n m c : Nat} {K : ABlk}
theorem rd_mono (h : Rd F H br n) (hm : n ≤ m) : Rd F H br m := by
  obtain ⟨bs, cb, p, h1, h2, h3, h4⟩ := h
  exact ⟨bs, cb, p, h1, Nat.le_trans h2 hm, h3, h4⟩
theorem rd_in (h : Rd F H br n) (hc : H c = none) : Rd (F.set c K) (H.set c K) br n := by
  obtain ⟨bs, cb, p, h1, h2, h3, rfl⟩ := h
  rw [set_none] at hc
  exact ⟨bs, cb, p, h1, h2, by rw [set_other hc.2.1]; exact h3, set_comm hc.2.1⟩
theorem rd_out (h : Rd (F.set c K) H br n) (hc : F c = none) : ∃ H', H = H'.set c K ∧ Rd F H' br n ∧ H' c = none := by
  obtain ⟨bs, cb, p, h1, h2, h3, rfl⟩ := h
  rw [set_none] at h3
  exact ⟨_, set_comm h3.2.1, ⟨bs, cb, p, h1, h2, h3.2.2, rfl⟩, by rw [set_other h3.2.1]; exact hc⟩
theorem rd_none (h : Rd F H br n) (hc : H c = none) : F c = none ∧ c ≠ br := by
  obtain ⟨bs, cb, p, h1, h2, h3, rfl⟩ := h
  rw [set_none] at hc
  exact ⟨hc.2.2, hc.1⟩
end
theorem pick_val (a b p l k : Int) (ha : 0 ≤ a) (ha' : a ≤ 255) (hb : 0 ≤ b) (hb' : b ≤ 255) (hp : 0 ≤ p) (hp' : p ≤ 1000000000) (hl : 0 < l) (hk : 0 < k) :
    ∃ z : Int, (bits .xor .i64 (a * 131 + b * 1117 + p * 29 + p.tdiv l * 53) ((a * 131 + b * 1117 + p * 29 + p.tdiv l * 53).tdiv 64)).tmod k = z ∧ 0 ≤ z ∧ z < k := by
  have hd : 0 ≤ p.tdiv l ∧ p.tdiv l ≤ p := ⟨Int.tdiv_nonneg hp (by omega), Int.tdiv_le_self _ hp⟩
  generalize p.tdiv l = q at hd
  have h0 : 0 ≤ a * 131 + b * 1117 + p * 29 + q * 53 ∧ a * 131 + b * 1117 + p * 29 + q * 53 ≤ 1000000000000 := by omega
  generalize a * 131 + b * 1117 + p * 29 + q * 53 = x at h0
  obtain ⟨y, rfl⟩ := Int.eq_ofNat_of_zero_le h0.1
  have hdiv : ((y : Int)).tdiv 64 = ((y / 64 : Nat) : Int) := rfl
  rw [hdiv]
  obtain ⟨z, hz, hz'⟩ := xor64 y (y / 64) (by omega) (by omega)
  rw [hz]
  exact ⟨_, rfl, Int.tmod_nonneg _ (by omega), Int.tmod_lt_of_pos _ hk⟩

theorem c_pick (F H : AHeap) (br n : Nat) (k : Int) (h : Rd F H br n) (hn : n < 1000000000) : ACalls Try.prog 59 [.ptr br 2 0 0, I k] H fun r H' => ∃ v : Int, r = I v ∧ 0 ≤ v ∧ (0 < k → v < k) ∧ (k ≤ 0 → v = 0) ∧ Rd F H' br (n + 1) := by
  obtain ⟨bs, cb, p, h1, h2, h3, rfl⟩ := h
  refine acalls_of0 Try.func59 rfl (by kernel_rfl) rfl rfl (awp_sound (fz := fun _ => []) (im := fun _ => false) mixed _ _ _ _ (by kernel_rfl) ?_)
  simp +contextual -dsimp -implicitDefEqProofs (maxSteps := 5000000) only [go_sem, reduceIte, reduceCtorEq, Nat.reduceEqDiff, Nat.reduceBEq, Nat.reduceAdd, Nat.reduceLeDiff, Nat.reduceMul, Nat.reduceLT, Int.reduceEq, Int.reduceLT, Int.reduceLE]
  have hw : IntKind.i64.wrap ((p : Int) + 1) = ((p + 1 : Nat) : Int) := by rw [w64 (by omega) (by omega)]; simp
  have hRd : ∀ v : Int, 0 ≤ v → (0 < k → v < k) → (k ≤ 0 → v = 0) → ∃ v' : Int, I v = I v' ∧ 0 ≤ v' ∧ (0 < k → v' < k) ∧ (k ≤ 0 → v' = 0) ∧ Rd F (F.set br ⟨2, 91, [[.vsl (bs.map rU) cb, I (IntKind.i64.wrap ((p : Int) + 1))]]⟩) br (n + 1) :=
    fun v q1 q2 q3 => ⟨v, rfl, q1, q2, q3, bs, cb, p + 1, h1, by omega, h3, by rw [hw]⟩
  have hw2 : IntKind.i64.wrap (IntKind.i64.wrap ((p : Int) + 1) - 1) = (p : Int) := by rw [hw, w64 (by omega) (by omega)]; simp
  simp only [hw2, Int.toNat_natCast]
  refine ⟨fun q => hRd 0 (by omega) (fun h => h) (fun _ => rfl), fun q => ⟨fun hlt => ?_, fun hge => ?_⟩⟩
  · have hpl : p < bs.length := by omega
    have hb := (bs.getD p default).toNat_lt
    simp +contextual -dsimp -implicitDefEqProofs (maxSteps := 5000000) only [go_sem, reduceIte, reduceCtorEq, Nat.reduceEqDiff, Nat.reduceBEq, Nat.reduceAdd, Nat.reduceLeDiff, Nat.reduceMul, Nat.reduceLT, Int.reduceEq, Int.reduceLT, Int.reduceLE, hpl]
    refine ⟨by omega, ?_⟩
    rw [w64 (by omega) (by omega)]
    exact hRd _ (Int.tmod_nonneg _ (by omega)) (fun h => Int.tmod_lt_of_pos _ h) (fun h => by omega)
  · refine draw_intro [0, 0, 0, 0, 0, 0, 0, 0, 0, 0, 0, 0, 0, 0, 0, 0, 0, 0, 0, 0, 0, 0, 0, 0, 0, 0, 0, 0, 0, 0, 0, 0, 0, 0, 0, 0, 0, 0, 0, 0, 0, 0, 0, 0, 0, 0] AHeap.none (by kernel_rfl) none_le ?_
    have hl0 : ¬ (bs.length : Int) = 0 := by omega
    have hlp : (0 : Int) < bs.length := by omega
    have e1 : IntKind.i64.wrap ((p : Int) * 7) = (p : Int) * 7 := w64 (by omega) (by omega)
    have e2 : IntKind.i64.wrap ((p : Int) * 7 + 3) = (p : Int) * 7 + 3 := w64 (by omega) (by omega)
    have j1 := Int.tmod_nonneg (bs.length : Int) (show 0 ≤ (p : Int) by omega)
    have j2 := Int.tmod_lt_of_pos (p : Int) hlp
    have j3 := Int.tmod_nonneg (bs.length : Int) (show 0 ≤ (p : Int) * 7 + 3 by omega)
    have j4 := Int.tmod_lt_of_pos ((p : Int) * 7 + 3) hlp
    have j5 : ((p : Int).tmod bs.length).toNat < bs.length := by omega
    have j6 : (((p : Int) * 7 + 3).tmod bs.length).toNat < bs.length := by omega
    simp +contextual -dsimp -implicitDefEqProofs (maxSteps := 5000000) only [go_sem, reduceIte, reduceCtorEq, Nat.reduceEqDiff, Nat.reduceBEq, Nat.reduceAdd, Nat.reduceLeDiff, Nat.reduceMul, Nat.reduceLT, Int.reduceEq, Int.reduceLT, Int.reduceLE, hw2, hl0, e1, e2, j1, j2, j3, j4, j5, j6]
    have ha := (bs.getD ((p : Int).tmod bs.length).toNat default).toNat_lt
    have hb := (bs.getD (((p : Int) * 7 + 3).tmod bs.length).toNat default).toNat_lt
    generalize (bs.getD ((p : Int).tmod bs.length).toNat default).toNat = a at ha
    generalize (bs.getD (((p : Int) * 7 + 3).tmod bs.length).toNat default).toNat = b at hb
    have hk : 0 < k := by omega
    obtain ⟨z, hz, z0, z1⟩ := pick_val a b p bs.length k (by omega) (by omega) (by omega) (by omega) (by omega) (by omega) hlp hk
    have hd : 0 ≤ (p : Int).tdiv bs.length ∧ (p : Int).tdiv bs.length ≤ p := ⟨Int.tdiv_nonneg (by omega) (by omega), Int.tdiv_le_self _ (by omega)⟩
    generalize (p : Int).tdiv bs.length = q2 at hd hz
    rw [w64 (a := (a : Int)) (by omega) (by omega), w64 (a := (b : Int)) (by omega) (by omega), w64 (a := (a : Int) * 131) (by omega) (by omega), w64 (a := (b : Int) * 1117) (by omega) (by omega),
      w64 (a := (a : Int) * 131 + (b : Int) * 1117) (by omega) (by omega), w64 (a := (p : Int) * 29) (by omega) (by omega), w64 (a := (a : Int) * 131 + (b : Int) * 1117 + (p : Int) * 29) (by omega) (by omega),
      w64 (a := q2) (by omega) (by omega), w64 (a := q2 * 53) (by omega) (by omega), w64 (a := (a : Int) * 131 + (b : Int) * 1117 + (p : Int) * 29 + q2 * 53) (by omega) (by omega)]
    have hd2 : 0 ≤ ((a : Int) * 131 + (b : Int) * 1117 + (p : Int) * 29 + q2 * 53).tdiv 64 ∧ ((a : Int) * 131 + (b : Int) * 1117 + (p : Int) * 29 + q2 * 53).tdiv 64 ≤ (a : Int) * 131 + (b : Int) * 1117 + (p : Int) * 29 + q2 * 53 := ⟨Int.tdiv_nonneg (by omega) (by omega), Int.tdiv_le_self _ (by omega)⟩
    rw [w64 (a := ((a : Int) * 131 + (b : Int) * 1117 + (p : Int) * 29 + q2 * 53).tdiv 64) (by omega) (by omega), hz]
    exact ⟨by omega, hRd z z0 (fun _ => z1) (fun h => by omega)⟩
theorem c_newReader (bs : List UInt8) (cb : Bool) (H : AHeap) : ACalls Try.prog 36 [.vsl (bs.map rU) cb] H fun r H' => ∃ br, r = .ptr br 2 0 0 ∧ Rd H H' br 0 := by
  refine acalls_of0 Try.func36 rfl (by kernel_rfl) rfl rfl (awp_sound (fz := fun _ => []) (im := fun _ => false) mixed _ _ _ _ (by kernel_rfl) ?_)
  simp +contextual -dsimp -implicitDefEqProofs (maxSteps := 5000000) only [go_sem, reduceIte, reduceCtorEq, Nat.reduceEqDiff, Nat.reduceBEq, Nat.reduceAdd, Nat.reduceLeDiff, Nat.reduceMul, Nat.reduceLT, Int.reduceEq, Int.reduceLT, Int.reduceLE]
  refine ⟨fun h => ⟨by omega, fun b hb => ⟨b, rfl, _, _, 0, ?_, Nat.le_refl _, hb, rfl⟩⟩, fun h b hb => ⟨b, rfl, _, _, 0, by omega, Nat.le_refl _, hb, rfl⟩⟩
  simp; omega
theorem c_one (F H : AHeap) (br n : Nat) (l : List Int) (cl : Bool) (h : Rd F H br n) (hn : n < 1000000000) (hl : l ≠ []) : ACalls Try.prog 60 [.ptr br 2 0 0, .vsl (l.map rI) cl] H fun r H' => ∃ v, r = I v ∧ v ∈ l ∧ Rd F H' br (n + 1) := by
  have hp : 0 < l.length := List.length_pos_iff.2 hl
  refine acalls_of0 Try.func60 rfl (by kernel_rfl) rfl rfl (awp_sound (fz := fun _ => []) (im := fun _ => false) mixed _ _ _ _ (by kernel_rfl) ?_)
  simp +contextual -dsimp -implicitDefEqProofs (maxSteps := 5000000) only [go_sem, reduceIte, reduceCtorEq, Nat.reduceEqDiff, Nat.reduceBEq, Nat.reduceAdd, Nat.reduceLeDiff, Nat.reduceMul, Nat.reduceLT, Int.reduceEq, Int.reduceLT, Int.reduceLE]
  refine (c_pick F H br n l.length h hn).mono ?_
  rintro _ H' ⟨v, rfl, v0, v1, v2, hR⟩
  have v3 := v1 (by omega)
  simp +contextual -dsimp -implicitDefEqProofs (maxSteps := 5000000) only [go_sem, reduceIte, reduceCtorEq, Nat.reduceEqDiff, Nat.reduceBEq, Nat.reduceAdd, Nat.reduceLeDiff, Nat.reduceMul, Nat.reduceLT, Int.reduceEq, Int.reduceLT, Int.reduceLE, v0, v3]
  have i1 : v.toNat < l.length := by omega
  refine ⟨i1, l.getD v.toNat default, rfl, ?_, hR⟩
  rw [List.getD_eq_getElem?_getD, List.getElem?_eq_getElem i1]; exact List.getElem_mem i1
theorem c_of (F H : AHeap) (br n : Nat) (l : List Str) (cl : Bool) (h : Rd F H br n) (hn : n < 1000000000) (hl : l ≠ []) : ACalls Try.prog 83 [.ptr br 2 0 0, .vsl (l.map rS) cl] H fun r H' => ∃ v, r = S v ∧ v ∈ l ∧ Rd F H' br (n + 1) := by
  have hp : 0 < l.length := List.length_pos_iff.2 hl
  refine acalls_of0 Try.func83 rfl (by kernel_rfl) rfl rfl (awp_sound (fz := fun _ => []) (im := fun _ => false) mixed _ _ _ _ (by kernel_rfl) ?_)
  simp +contextual -dsimp -implicitDefEqProofs (maxSteps := 5000000) only [go_sem, reduceIte, reduceCtorEq, Nat.reduceEqDiff, Nat.reduceBEq, Nat.reduceAdd, Nat.reduceLeDiff, Nat.reduceMul, Nat.reduceLT, Int.reduceEq, Int.reduceLT, Int.reduceLE]
  refine (c_pick F H br n l.length h hn).mono ?_
  rintro _ H' ⟨v, rfl, v0, v1, v2, hR⟩
  have v3 := v1 (by omega)
  simp +contextual -dsimp -implicitDefEqProofs (maxSteps := 5000000) only [go_sem, reduceIte, reduceCtorEq, Nat.reduceEqDiff, Nat.reduceBEq, Nat.reduceAdd, Nat.reduceLeDiff, Nat.reduceMul, Nat.reduceLT, Int.reduceEq, Int.reduceLT, Int.reduceLE, v0, v3]
  have i1 : v.toNat < l.length := by omega
  refine ⟨i1, l.getD v.toNat default, rfl, ?_, hR⟩
  rw [List.getD_eq_getElem?_getD, List.getElem?_eq_getElem i1]; exact List.getElem_mem i1
end Go.Proofs.Ytbjgilehnlpmaaa
end
section
set_option linter.unusedVariables false
set_option linter.unusedSimpArgs false
namespace Go.Proofs.Ytbjgilehnlpmaaa
open Go Go.Sim
set_option maxRecDepth 100000
attribute [local go_sem ↓] aw_skip aw_ret aw_exit aw_region aw_draw aw_seq aw_block aw_loop aw_cond frz_nil frz_cons sq_normal sq_ret sq_exit exB_normal exB_ret exB_same exB_other retQ_ret retQ_normal ret0_ret ret0_normal ao_nil go1 g_move g_assign g_pick g_build g_load g_binOp g_unOp g_convert g_fieldAddr g_field g_indexAddr g_index g_extract g_slice g_nilCheck g_len g_makeFunc h_call h_append h_alloc h_box h_buildSlice h_makeSlice h_store gV i_box i_buildSlice i_move i_assign i_build i_load i_binOp i_unOp i_convert i_fieldAddr i_field i_indexAddr i_index i_extract i_slice i_nilCheck i_makeFunc i_len i_max i_min i_alloc i_makeSlice i_store i_append i_call i_pick boxI boxA buildSliceI buildSliceA makeSliceA allocA storeA p_move p_assign p_pick p_build p_load p_binOp p_unOp p_convert p_fieldAddr p_field p_indexAddr p_index p_extract p_slice p_nilCheck p_makeFunc p_len p_max p_min p_alloc p_box p_buildSlice p_makeSlice p_store p_append p_call x_nil x_go1 x_g0 x_g1 x_g2 x_g3 x_s0 x_s1 x_s2 x_s3 u_move u_assign u_pick u_build u_load u_binOp u_unOp u_convert u_fieldAddr u_field u_indexAddr u_index u_extract u_slice u_nilCheck u_makeFunc u_len u_buildSlice x_s4 x_g4 rq_normal rq_ret rq_exit aw_range
attribute [local go_sem] frzV_sl frzK_some set_none set_other AHeap.set_self set_del set_set cnd_t cnd_f cnd_b retA_one retA_two retA_three retA_four retA_nil gIf_b mrgV_b mrgV_wh mrgV_U gIf_U gIf_wh mrgB_f mrgB_some mrgB_if wh_true wh_false keepA_some keepA_if gD_zero gD_succ gT_some bxA_t bxA_f callA_fn ev_tmp ev_const ev_global ev_func oc_bool oc_int oc_string oc_nil oc_nilptr oc_nilfunc cl_bool cl_int cl_string cl_nil updO_some updO_none upd_same upd_other init_at pickA_b pickA_wh selA_t selA_f selA_and selA_or selA_orn selA_orm selA_bb selA_ii beqt b_add b_sub b_mul b_and b_or b_xor b_eql b_neq b_lss b_leq b_gtr b_geq b_quo b_rem b_shr b_seql b_sneq b_sadd b_beql b_bneq b_aeql b_aneq u_not u_neg isConstOp eqA eqCellV List.getD_cons_zero List.getD_cons_succ List.map_cons List.map_nil List.nil_append List.cons_append List.append_nil if_true if_false Option.map_some Option.map_none ne_eq not_false_eq_true oneA ldv ld1v ld1s wr1s ldRow stRow row_lit row_agg row_vsl row_sl row_ptr row_fn one_I one_B one_S one_vsl one_sl one_ptr one_fn extractA okA rI rS rU rClass rFault rExit rStart rLine Int.toNat_natCast List.length_cons List.length_nil List.length_map List.all_cons List.all_nil Bool.and_true Nat.zero_add List.getElem?_cons_zero List.getElem?_cons_succ List.take_succ_cons List.take_zero List.drop_succ_cons List.drop_zero and_self true_and and_true implies_true decide_eq_true_eq decide_eq_false_iff_not Bool.or_eq_true Bool.or_eq_false_iff Bool.and_eq_true Bool.not_eq_true' Bool.not_eq_false' beq_false decide_true decide_false Int.ofNat_lt Int.ofNat_le Int.natCast_nonneg Bool.or_true Bool.or_false Bool.true_or Bool.false_or beq_self_eq_true List.drop_one Bool.not_true Bool.not_false Bool.not_not Bool.false_eq_true Bool.true_eq_false false_implies true_implies Bool.true_and Bool.false_and Bool.and_false not_true_eq_false Int.natCast_eq_zero Int.natCast_pos Int.natCast_zero false_and and_false or_false false_or or_true true_or Bool.or_self none_le_iff List.replicate_zero Int.toNat_zero List.replicate_succ buildRows List.set_cons_zero List.set_cons_succ List.set_nil List.mapM_nil maxLen_eq Nat.zero_le Nat.mul_one Nat.one_mul bldA fillA spliceA List.take_nil List.drop_nil List.getElem?_nil ld1o wr1o bldSliceA le_same cv_i cvI_t quietT_fn qvd_some ld_o ldO_1 ldO_l wr_o wrO_1 set_2 set_3 set_4 putL_nil putL_cons List.zip_cons_cons List.zip_nil_left List.zip_nil_right List.toList_toArray frzV_set ti1 ti2 tk2 ti3 te3 ts3 tk3 tz3 ti4 tb4 ti5 tk5 tz5 ti9 te9 ts9 tk9 tz9 ti12 tk12 ti13 tp13 tf13_0 tf13_1 ti20 ti21 tk21 tz21 ti22 te22 ti23 tp23 tf23_0 ti24 tp24 tf24_0 ti25 te25 ti27 ti28 ti29 te29 ti30 te30 ti31 tp31 tf31_0 ti32 tp32 tf32_0 ti33 tp33 tf33_0 tf33_1 tf33_2 tf33_3 ti34 tp34 tf34_0 tf34_1 tf34_2 tf34_3 ti35 ti36 tq36 tp36 tf36_0 tf36_1 tf36_2 tf36_3 ti37 tq37 tp37 tf37_0 tf37_1 tf37_2 tf37_3 ti38 ti39 ti40 ti41 ti42 ti43 ti44 te44 tz44 ti46 ti47 ti48 ti49 ti50 ti51 ti52 tq52 tp52 tf52_0 tf52_1 ti53 tq53 tp53 tf53_0 tf53_1 ti54 ti55 tq55 tp55 tf55_0 tf55_1 tf55_2 tf55_3 tf55_4 ti56 tq56 tp56 tf56_0 tf56_1 tf56_2 tf56_3 tf56_4 ti57 ti58 ti59 ti60 ti61 ti62 ti63 ti64 ti65 ti66 ti67 ti68 ti69 ti70 tp70 tf70_0 tf70_1 tf70_2 tf70_3 tf70_4 ti71 tp71 tf71_0 tf71_1 tf71_2 tf71_3 tf71_4 ti73 ti74 ti75 ti76 ti77 ti78 ti79 ti80 tq80 tp80 tf80_0 tf80_1 ti81 tq81 tp81 tf81_0 tf81_1 ti82 ti83 ti84 ti85 ti86 ti87 ti88 ti89 ti90 tp90 tf90_0 tf90_1 ti91 tp91 tf91_0 tf91_1 ti92 ti93 ti94 ti95 ti96 ti97 ti98 ti99 ti100 ti101 ti102 ti103 te103 ti104 ti105 ti106 ti107 ti108 ti109 ti110 ti111 ti112 tk112 tz112 ti113 ti114 ti115 tk115 ti117 ti118 ti119 ti121 ti122 ti123 tk123 tz123 ti124 ti125 tk125 tz125 ti126 ti127 tk127 ti128 ti129 ti130 ti131 ti132 ti133 ti135 ti136 ti142 ti146 fp13_0 fv13_0 fp13_1 fv13_1 fp23_0 fv23_0 fp24_0 fv24_0 fp31_0 fv31_0 fp32_0 fv32_0 fp33_0 fv33_0 fp33_1 fv33_1 fp33_2 fv33_2 fp33_3 fv33_3 fp34_0 fv34_0 fp34_1 fv34_1 fp34_2 fv34_2 fp34_3 fv34_3 fp36_0 fv36_0 fp36_1 fv36_1 fp36_2 fv36_2 fp36_3 fv36_3 fp37_0 fv37_0 fp37_1 fv37_1 fp37_2 fv37_2 fp37_3 fv37_3 fp52_0 fv52_0 fp52_1 fv52_1 fp53_0 fv53_0 fp53_1 fv53_1 fp55_0 fv55_0 fp55_1 fv55_1 fp55_2 fv55_2 fp55_3 fv55_3 fp55_4 fv55_4 fp56_0 fv56_0 fp56_1 fv56_1 fp56_2 fv56_2 fp56_3 fv56_3 fp56_4 fv56_4 fp70_0 fv70_0 fp70_1 fv70_1 fp70_2 fv70_2 fp70_3 fv70_3 fp70_4 fv70_4 fp71_0 fv71_0 fp71_1 fv71_1 fp71_2 fv71_2 fp71_3 fv71_3 fp71_4 fv71_4 fp80_0 fv80_0 fp80_1 fv80_1 fp81_0 fv81_0 fp81_1 fv81_1 fp90_0 fv90_0 fp90_1 fv90_1 fp91_0 fv91_0 fp91_1 fv91_1 lv22 ll22 is22 ix22 sh22 so22 sb22 sm22 sp22 lv25 ll25 is25 ix25 sh25 so25 sb25 sm25 sp25 lv29 ll29 is29 ix29 sh29 so29 sb29 sm29 sp29 lv30 ll30 is30 ix30 sh30 so30 sb30 sm30 sp30 lv44 ll44 is44 ix44 sh44 so44 sb44 sm44 sp44 lv103 ll103 is103 ix103 sh103 so103 sb103 sm103 sp103 xs9 ls9 sx9 sy9 sz9

/-- A reader's block, asked at most n times. -/
def RdK (n : Nat) (K : ABlk) : Prop := ∃ (bs : List UInt8) (cb : Bool) (p : Nat), bs.length ≤ 2000 ∧ p ≤ n ∧ K = ⟨2, 91, [[.vsl (bs.map rU) cb, I p]]⟩
theorem rdk_mono {n m : Nat} {K : ABlk} (h : RdK n K) (hm : n ≤ m) : RdK m K := by
  obtain ⟨bs, cb, p, h1, h2, h3⟩ := h
  exact ⟨bs, cb, p, h1, Nat.le_trans h2 hm, h3⟩
theorem rd_of {F : AHeap} {br n : Nat} {K : ABlk} (h : RdK n K) (hF : F br = none) : Rd F (F.set br K) br n := by
  obtain ⟨bs, cb, p, h1, h2, rfl⟩ := h
  exact ⟨bs, cb, p, h1, h2, hF, rfl⟩
theorem rd_to {F H : AHeap} {br n : Nat} (h : Rd F H br n) : ∃ K, RdK n K ∧ H = F.set br K := by
  obtain ⟨bs, cb, p, h1, h2, h3, rfl⟩ := h
  exact ⟨_, ⟨bs, cb, p, h1, h2, rfl⟩, rfl⟩
theorem k_pick {F : AHeap} {br n : Nat} {K : ABlk} (k : Int) (h : RdK n K) (hF : F br = none) (hn : n < 1000000000) {H : AHeap} (hH : H = F.set br K) {Q : AV → AHeap → Prop}
    (k0 : ∀ (v : Int) K', 0 ≤ v → (0 < k → v < k) → (k ≤ 0 → v = 0) → RdK (n + 1) K' → Q (I v) (F.set br K')) : ACalls Try.prog 59 [.ptr br 2 0 0, I k] H Q := by
  subst hH
  refine (c_pick F _ br n k (rd_of h hF) hn).mono ?_
  rintro _ H' ⟨v, rfl, v0, v1, v2, hR⟩
  obtain ⟨K', hK, rfl⟩ := rd_to hR
  exact k0 v K' v0 v1 v2 hK
theorem k_one {F : AHeap} {br n : Nat} {K : ABlk} (l : List Int) (cl : Bool) (h : RdK n K) (hF : F br = none) (hn : n < 1000000000) (hl : l ≠ []) {H : AHeap} (hH : H = F.set br K) {Q : AV → AHeap → Prop} {es : List (List AV)} (hes : es = l.map rI)
    (k0 : ∀ (v : Int) K', v ∈ l → RdK (n + 1) K' → Q (I v) (F.set br K')) : ACalls Try.prog 60 [.ptr br 2 0 0, .vsl es cl] H Q := by
  subst hH hes
  refine (c_one F _ br n l cl (rd_of h hF) hn hl).mono ?_
  rintro _ H' ⟨v, rfl, v0, hR⟩
  obtain ⟨K', hK, rfl⟩ := rd_to hR
  exact k0 v K' v0 hK
theorem k_of {F : AHeap} {br n : Nat} {K : ABlk} (l : List Str) (cl : Bool) (h : RdK n K) (hF : F br = none) (hn : n < 1000000000) (hl : l ≠ []) {H : AHeap} (hH : H = F.set br K) {Q : AV → AHeap → Prop} {es : List (List AV)} (hes : es = l.map rS)
    (k0 : ∀ (v : Str) K', v ∈ l → RdK (n + 1) K' → Q (S v) (F.set br K')) : ACalls Try.prog 83 [.ptr br 2 0 0, .vsl es cl] H Q := by
  subst hH hes
  refine (c_of F _ br n l cl (rd_of h hF) hn hl).mono ?_
  rintro _ H' ⟨v, rfl, v0, hR⟩
  obtain ⟨K', hK, rfl⟩ := rd_to hR
  exact k0 v K' v0 hK

def treeNames : List Str := [[97, 110, 121], [105, 111], [107, 101, 121], [116, 105, 109, 101], [110, 101, 116], [100, 105, 115, 107], [116, 121, 112, 101], [111, 100, 100]]
theorem treeNames_len : treeNames.length = 8 := rfl
def shortNames (l : List Class) : Prop := ∀ c ∈ l, c.name.length ≤ 10
theorem short_ok {l : List Class} (h : shortNames l) : namesOk l := fun c hc => by have := h c hc; omega
theorem c_goodTree (F : AHeap) (br n : Nat) (K : ABlk) (h : RdK n K) (hF : F br = none) (hn : n < 900000000) : ACalls Try.prog 82 [.ptr br 2 0 0] (F.set br K) fun r H' =>
    ∃ x l G K', r = .agg [x] ∧ Grow rClass 2 81 F G x l ∧ G br = none ∧ H' = G.set br K' ∧ RdK (n + 20) K' ∧ 1 ≤ l.length ∧ l.length ≤ 8 ∧ shortNames l := by
  refine acalls_of1 Try.func82 rfl (by kernel_rfl) rfl rfl (awp_sound (fz := fun _ => []) (im := fun s => s == 7 || s == 12) mixed _ _ _ _ (by kernel_rfl) ?_)
  simp +contextual -dsimp -implicitDefEqProofs (maxSteps := 5000000) only [go_sem, reduceIte, reduceCtorEq, Nat.reduceEqDiff, Nat.reduceBEq, Nat.reduceAdd, Nat.reduceLeDiff, Nat.reduceMul, Nat.reduceLT, Int.reduceEq, Int.reduceLT, Int.reduceLE]
  rintro b2 ⟨p1, p2, hb2⟩ b9 ⟨q1, q2, q3, q4, hb9⟩ b4 ⟨m1, m2, m3, m4, m5, m6, hb4⟩
  have hg0 : Grow rClass 2 81 F (F.set b9 ⟨2, 81, [⟨[97, 110, 121], -1⟩].map rClass⟩) (.sl b9 2 0 1 true) [⟨[97, 110, 121], -1⟩] := .inr ⟨b9, true, hb9, rfl, rfl⟩
  have hH : (((F.set br K).set b2 ⟨1, 24, [[.vsl [] true]]⟩).set b9 ⟨2, 81, [[S [97, 110, 121], I (-1)]]⟩).set b4 ⟨1, 24, [[.sl b9 2 0 1 true]]⟩ =
      (((F.set b9 ⟨2, 81, [⟨[97, 110, 121], -1⟩].map rClass⟩).set b2 ⟨1, 24, [[.vsl [] true]]⟩).set b4 ⟨1, 24, [[.sl b9 2 0 1 true]]⟩).set br K := by
    rw [set_comm (H := F) (Ne.symm p1), set_comm (H := F.set b2 _) (Ne.symm q3), set_comm (H := (F.set b2 _).set b9 _) (Ne.symm m5), set_comm (H := F) (Ne.symm q1)]
    rfl
  rw [hH]
  have e2 : (F.set b9 ⟨2, 81, [⟨[97, 110, 121], -1⟩].map rClass⟩) b2 = none := by rw [set_other q2]; exact hb2
  have e4 : (F.set b9 ⟨2, 81, [⟨[97, 110, 121], -1⟩].map rClass⟩) b4 = none := by rw [set_other m1]; exact hb4
  have er : (F.set b9 ⟨2, 81, [⟨[97, 110, 121], -1⟩].map rClass⟩) br = none := by rw [set_other q4]; exact hF
  generalize F.set b9 ⟨2, 81, [⟨[97, 110, 121], -1⟩].map rClass⟩ = G0 at hg0 e2 e4 er ⊢
  generalize AV.sl b9 2 0 1 true = x0 at hg0 ⊢
  have none3 : ∀ (G : AHeap) (K2 K4 : ABlk), G br = none → ((G.set b2 K2).set b4 K4) br = none := fun G K2 K4 h => by rw [set_other m6, set_other p2]; exact h
  refine k_one [4, 5, 3, 6, 2, 1, 8] _ h (none3 _ _ _ er) (by omega) (by simp) rfl rfl fun v K1 hv hK1 => ?_
  have hv8 : 1 ≤ v ∧ v ≤ 8 := by simp at hv; omega
  clear hH
  simp +contextual -dsimp -implicitDefEqProofs (maxSteps := 5000000) only [go_sem, reduceIte, reduceCtorEq, Nat.reduceEqDiff, Nat.reduceBEq, Nat.reduceAdd, Nat.reduceLeDiff, Nat.reduceMul, Nat.reduceLT, Int.reduceEq, Int.reduceLT, Int.reduceLE]
  refine aloop mixed (fz := fun _ => []) (im := fun s => s == 7 || s == 12) (by kernel_rfl) (fun m tm H' => ∃ (i : Nat) (G : AHeap) (x : AV) (l : List Class) (K : ABlk), m = v.toNat - i ∧ 1 ≤ i ∧ i ≤ v ∧ l.length = i ∧ shortNames l ∧ Grow rClass 2 81 F G x l ∧ G b2 = none ∧ G b4 = none ∧ G br = none ∧ RdK (n + 2 + 2 * i) K ∧
    H' = ((G.set b2 ⟨1, 24, [[.vsl [] true]]⟩).set b4 ⟨1, 24, [[x]]⟩).set br K ∧ tm 0 = .ptr br 2 0 0 ∧ tm 2 = .ptr b2 1 0 0 ∧ tm 3 = .vsl (treeNames.map rS) true ∧ tm 4 = .ptr b4 1 0 0 ∧ tm 5 = I v ∧ tm 6 = I i) (v.toNat - 1) ⟨1, G0, x0, _, K1, rfl, by omega, by omega, rfl, ?_, hg0, e2, e4, er, rdk_mono hK1 (by omega), rfl, ?_⟩ ?_
  · intro c hc; simp at hc; subst hc; decide
  · simp +contextual -dsimp -implicitDefEqProofs (maxSteps := 5000000) only [go_sem, reduceIte, reduceCtorEq, Nat.reduceEqDiff, Nat.reduceBEq, Nat.reduceAdd, Nat.reduceLeDiff, Nat.reduceMul, Nat.reduceLT, Int.reduceEq, Int.reduceLT, Int.reduceLE]
    exact ⟨rfl, rfl⟩
  · rintro m tm H' ⟨i, G, x, l, K, rfl, hi1, hi, hl, hs, hg, f2, f4, fr, hK, rfl, t0, t2, t3, t4, t5, t6⟩
    obtain ⟨r1, r2⟩ := one_grow hg
    simp +contextual -dsimp -implicitDefEqProofs (maxSteps := 5000000) only [go_sem, reduceIte, reduceCtorEq, Nat.reduceEqDiff, Nat.reduceBEq, Nat.reduceAdd, Nat.reduceLeDiff, Nat.reduceMul, Nat.reduceLT, Int.reduceEq, Int.reduceLT, Int.reduceLE, t0, t2, t3, t4, t5, t6, p1, p2, m3, m4, m5, m6, r1, r2]
    refine ⟨fun hlt => ?_, fun hge => ?_⟩
    · refine draw_intro [0, 1, 0, 0, 0, 1, 0, 0, 0, 3, 0, 0, 0, 3, 0, 0, 2, 0, 2] ((G.set b2 ⟨1, 24, [[.vsl [] true]]⟩).set b4 ⟨1, 24, [[x]]⟩) (by kernel_rfl) (le_set (none3 _ _ _ fr)) ?_
      have i8 : i < 8 := by omega
      have hnm : (treeNames.getD i default).length ≤ 10 := by
        have : ∀ j, j < 8 → (treeNames.getD j default).length ≤ 10 := by decide
        exact this i i8
      simp +contextual -dsimp -implicitDefEqProofs (maxSteps := 5000000) only [go_sem, reduceIte, reduceCtorEq, Nat.reduceEqDiff, Nat.reduceBEq, Nat.reduceAdd, Nat.reduceLeDiff, Nat.reduceMul, Nat.reduceLT, Int.reduceEq, Int.reduceLT, Int.reduceLE, t0, t2, t3, t4, t5, t6, p1, p2, m3, m4, m5, m6, r1, r2, treeNames_len, i8]
      refine k_pick i hK (none3 _ _ _ fr) (by omega) rfl fun u K2 u0 u1 u2 hK2 => ⟨le_set (none3 _ _ _ fr), ?_⟩
      simp +contextual -dsimp -implicitDefEqProofs (maxSteps := 5000000) only [go_sem, reduceIte, reduceCtorEq, Nat.reduceEqDiff, Nat.reduceBEq, Nat.reduceAdd, Nat.reduceLeDiff, Nat.reduceMul, Nat.reduceLT, Int.reduceEq, Int.reduceLT, Int.reduceLE, t0, t2, t3, t4, t5, t6, p1, p2, m3, m4, m5, m6, r1, r2, treeNames_len, i8]
      refine k_one [0, u, IntKind.i64.wrap ((i : Int) - 1)] _ hK2 (none3 _ _ _ fr) (by omega) (by simp) rfl rfl fun z K3 hz hK3 => ⟨le_set (none3 _ _ _ fr), ?_⟩
      simp +contextual -dsimp -implicitDefEqProofs (maxSteps := 5000000) only [go_sem, reduceIte, reduceCtorEq, Nat.reduceEqDiff, Nat.reduceBEq, Nat.reduceAdd, Nat.reduceLeDiff, Nat.reduceMul, Nat.reduceLT, Int.reduceEq, Int.reduceLT, Int.reduceLE, t0, t2, t3, t4, t5, t6, p1, p2, m3, m4, m5, m6, r1, r2, treeNames_len, i8]
      have f4' : (G.set b2 ⟨1, 24, [[.vsl [] true]]⟩) b4 = none := by rw [set_other m3]; exact f4
      refine grow_append (m := [⟨treeNames.getD i default, z⟩]) te22 ti81 rClass_len (by decide) (grow_in (grow_in (grow_in hg f2) f4') (none3 _ _ _ fr)) (by simp; omega) (by simp; omega) rfl fun x' H' hg' => ?_
      have g2 := grow_none hg f2
      have g4 := grow_none hg f4
      have gr := grow_none hg fr
      obtain ⟨G1, hg1, rfl, u7⟩ := grow_out hg' (none3 _ _ _ gr)
      obtain ⟨G2, hg2, rfl, u6⟩ := grow_out hg1 (by rw [set_other m3]; exact g4)
      obtain ⟨G3, hg3, rfl, u5⟩ := grow_out hg2 g2
      obtain ⟨r3, r4⟩ := one_grow hg3
      rw [set_other m3] at u6
      rw [set_other m6, set_other p2] at u7
      simp +contextual -dsimp -implicitDefEqProofs (maxSteps := 5000000) only [go_sem, reduceIte, reduceCtorEq, Nat.reduceEqDiff, Nat.reduceBEq, Nat.reduceAdd, Nat.reduceLeDiff, Nat.reduceMul, Nat.reduceLT, Int.reduceEq, Int.reduceLT, Int.reduceLE, t0, t2, t3, t4, t5, t6, p1, p2, m3, m4, m5, m6, r1, r2, r3, r4, treeNames_len, i8]
      refine ⟨_, ?_, i + 1, G3, x', l ++ [⟨treeNames.getD i default, z⟩], K3, rfl, by omega, by omega, by simp [hl], ?_, hg3, u5, u6, u7, rdk_mono hK3 (by omega), rfl, I_wrap (by simp) (by omega) (by omega)⟩
      · omega
      · intro c hc
        rcases List.mem_append.1 hc with q | q
        · exact hs c q
        · simp at q; subst q; exact hnm
    · refine retR_less (l := [.agg [x]]) (H' := G.set br K) ?_ (fun c k hc => ?_) ⟨x, l, G, K, rfl, hg, fr, rfl, rdk_mono hK (by omega), by omega, by omega, hs⟩
      · simp only [resA, go_sem, reduceIte, reduceCtorEq, Nat.reduceEqDiff, Nat.reduceBEq, Nat.reduceAdd, Nat.reduceLeDiff, Nat.reduceMul, Nat.reduceLT, Int.reduceEq, Int.reduceLT, Int.reduceLE, p1, p2, m3, m4, m5, m6, t2]
      · by_cases c0 : c = br
        · subst c0; rw [AHeap.set_self] at hc ⊢; exact hc
        · rw [set_other c0] at hc
          have c1 : c ≠ b2 := fun e => by rw [e, f2] at hc; cases hc
          have c2 : c ≠ b4 := fun e => by rw [e, f4] at hc; cases hc
          rw [set_other c0, set_other c2, set_other c1]; exact hc
end Go.Proofs.Ytbjgilehnlpmaaa
end
section
set_option linter.unusedVariables false
set_option linter.unusedSimpArgs false
namespace Go.Proofs.Ytbjgilehnlpmaaa
open Go Go.Sim
set_option maxRecDepth 100000
attribute [local go_sem ↓] aw_skip aw_ret aw_exit aw_region aw_draw aw_seq aw_block aw_loop aw_cond frz_nil frz_cons sq_normal sq_ret sq_exit exB_normal exB_ret exB_same exB_other retQ_ret retQ_normal ret0_ret ret0_normal ao_nil go1 g_move g_assign g_pick g_build g_load g_binOp g_unOp g_convert g_fieldAddr g_field g_indexAddr g_index g_extract g_slice g_nilCheck g_len g_makeFunc h_call h_append h_alloc h_box h_buildSlice h_makeSlice h_store gV i_box i_buildSlice i_move i_assign i_build i_load i_binOp i_unOp i_convert i_fieldAddr i_field i_indexAddr i_index i_extract i_slice i_nilCheck i_makeFunc i_len i_max i_min i_alloc i_makeSlice i_store i_append i_call i_pick boxI boxA buildSliceI buildSliceA makeSliceA allocA storeA p_move p_assign p_pick p_build p_load p_binOp p_unOp p_convert p_fieldAddr p_field p_indexAddr p_index p_extract p_slice p_nilCheck p_makeFunc p_len p_max p_min p_alloc p_box p_buildSlice p_makeSlice p_store p_append p_call x_nil x_go1 x_g0 x_g1 x_g2 x_g3 x_s0 x_s1 x_s2 x_s3 u_move u_assign u_pick u_build u_load u_binOp u_unOp u_convert u_fieldAddr u_field u_indexAddr u_index u_extract u_slice u_nilCheck u_makeFunc u_len u_buildSlice x_s4 x_g4 rq_normal rq_ret rq_exit aw_range
attribute [local go_sem] frzV_sl frzK_some set_none set_other AHeap.set_self set_del set_set cnd_t cnd_f cnd_b retA_one retA_two retA_three retA_four retA_nil gIf_b mrgV_b mrgV_wh mrgV_U gIf_U gIf_wh mrgB_f mrgB_some mrgB_if wh_true wh_false keepA_some keepA_if gD_zero gD_succ gT_some bxA_t bxA_f callA_fn ev_tmp ev_const ev_global ev_func oc_bool oc_int oc_string oc_nil oc_nilptr oc_nilfunc cl_bool cl_int cl_string cl_nil updO_some updO_none upd_same upd_other init_at pickA_b pickA_wh selA_t selA_f selA_and selA_or selA_orn selA_orm selA_bb selA_ii beqt b_add b_sub b_mul b_and b_or b_xor b_eql b_neq b_lss b_leq b_gtr b_geq b_quo b_rem b_shr b_seql b_sneq b_sadd b_beql b_bneq b_aeql b_aneq u_not u_neg isConstOp eqA eqCellV List.getD_cons_zero List.getD_cons_succ List.map_cons List.map_nil List.nil_append List.cons_append List.append_nil if_true if_false Option.map_some Option.map_none ne_eq not_false_eq_true oneA ldv ld1v ld1s wr1s ldRow stRow row_lit row_agg row_vsl row_sl row_ptr row_fn one_I one_B one_S one_vsl one_sl one_ptr one_fn extractA okA rI rS rU rClass rFault rExit rStart rLine Int.toNat_natCast List.length_cons List.length_nil List.length_map List.all_cons List.all_nil Bool.and_true Nat.zero_add List.getElem?_cons_zero List.getElem?_cons_succ List.take_succ_cons List.take_zero List.drop_succ_cons List.drop_zero and_self true_and and_true implies_true decide_eq_true_eq decide_eq_false_iff_not Bool.or_eq_true Bool.or_eq_false_iff Bool.and_eq_true Bool.not_eq_true' Bool.not_eq_false' beq_false decide_true decide_false Int.ofNat_lt Int.ofNat_le Int.natCast_nonneg Bool.or_true Bool.or_false Bool.true_or Bool.false_or beq_self_eq_true List.drop_one Bool.not_true Bool.not_false Bool.not_not Bool.false_eq_true Bool.true_eq_false false_implies true_implies Bool.true_and Bool.false_and Bool.and_false not_true_eq_false Int.natCast_eq_zero Int.natCast_pos Int.natCast_zero false_and and_false or_false false_or or_true true_or Bool.or_self none_le_iff List.replicate_zero Int.toNat_zero List.replicate_succ buildRows List.set_cons_zero List.set_cons_succ List.set_nil List.mapM_nil maxLen_eq Nat.zero_le Nat.mul_one Nat.one_mul bldA fillA spliceA List.take_nil List.drop_nil List.getElem?_nil ld1o wr1o bldSliceA le_same cv_i cvI_t quietT_fn qvd_some ld_o ldO_1 ldO_l wr_o wrO_1 set_2 set_3 set_4 putL_nil putL_cons List.zip_cons_cons List.zip_nil_left List.zip_nil_right List.toList_toArray frzV_set ti1 ti2 tk2 ti3 te3 ts3 tk3 tz3 ti4 tb4 ti5 tk5 tz5 ti9 te9 ts9 tk9 tz9 ti12 tk12 ti13 tp13 tf13_0 tf13_1 ti20 ti21 tk21 tz21 ti22 te22 ti23 tp23 tf23_0 ti24 tp24 tf24_0 ti25 te25 ti27 ti28 ti29 te29 ti30 te30 ti31 tp31 tf31_0 ti32 tp32 tf32_0 ti33 tp33 tf33_0 tf33_1 tf33_2 tf33_3 ti34 tp34 tf34_0 tf34_1 tf34_2 tf34_3 ti35 ti36 tq36 tp36 tf36_0 tf36_1 tf36_2 tf36_3 ti37 tq37 tp37 tf37_0 tf37_1 tf37_2 tf37_3 ti38 ti39 ti40 ti41 ti42 ti43 ti44 te44 tz44 ti46 ti47 ti48 ti49 ti50 ti51 ti52 tq52 tp52 tf52_0 tf52_1 ti53 tq53 tp53 tf53_0 tf53_1 ti54 ti55 tq55 tp55 tf55_0 tf55_1 tf55_2 tf55_3 tf55_4 ti56 tq56 tp56 tf56_0 tf56_1 tf56_2 tf56_3 tf56_4 ti57 ti58 ti59 ti60 ti61 ti62 ti63 ti64 ti65 ti66 ti67 ti68 ti69 ti70 tp70 tf70_0 tf70_1 tf70_2 tf70_3 tf70_4 ti71 tp71 tf71_0 tf71_1 tf71_2 tf71_3 tf71_4 ti73 ti74 ti75 ti76 ti77 ti78 ti79 ti80 tq80 tp80 tf80_0 tf80_1 ti81 tq81 tp81 tf81_0 tf81_1 ti82 ti83 ti84 ti85 ti86 ti87 ti88 ti89 ti90 tp90 tf90_0 tf90_1 ti91 tp91 tf91_0 tf91_1 ti92 ti93 ti94 ti95 ti96 ti97 ti98 ti99 ti100 ti101 ti102 ti103 te103 ti104 ti105 ti106 ti107 ti108 ti109 ti110 ti111 ti112 tk112 tz112 ti113 ti114 ti115 tk115 ti117 ti118 ti119 ti121 ti122 ti123 tk123 tz123 ti124 ti125 tk125 tz125 ti126 ti127 tk127 ti128 ti129 ti130 ti131 ti132 ti133 ti135 ti136 ti142 ti146 fp13_0 fv13_0 fp13_1 fv13_1 fp23_0 fv23_0 fp24_0 fv24_0 fp31_0 fv31_0 fp32_0 fv32_0 fp33_0 fv33_0 fp33_1 fv33_1 fp33_2 fv33_2 fp33_3 fv33_3 fp34_0 fv34_0 fp34_1 fv34_1 fp34_2 fv34_2 fp34_3 fv34_3 fp36_0 fv36_0 fp36_1 fv36_1 fp36_2 fv36_2 fp36_3 fv36_3 fp37_0 fv37_0 fp37_1 fv37_1 fp37_2 fv37_2 fp37_3 fv37_3 fp52_0 fv52_0 fp52_1 fv52_1 fp53_0 fv53_0 fp53_1 fv53_1 fp55_0 fv55_0 fp55_1 fv55_1 fp55_2 fv55_2 fp55_3 fv55_3 fp55_4 fv55_4 fp56_0 fv56_0 fp56_1 fv56_1 fp56_2 fv56_2 fp56_3 fv56_3 fp56_4 fv56_4 fp70_0 fv70_0 fp70_1 fv70_1 fp70_2 fv70_2 fp70_3 fv70_3 fp70_4 fv70_4 fp71_0 fv71_0 fp71_1 fv71_1 fp71_2 fv71_2 fp71_3 fv71_3 fp71_4 fv71_4 fp80_0 fv80_0 fp80_1 fv80_1 fp81_0 fv81_0 fp81_1 fv81_1 fp90_0 fv90_0 fp90_1 fv90_1 fp91_0 fv91_0 fp91_1 fv91_1 lv22 ll22 is22 ix22 sh22 so22 sb22 sm22 sp22 lv25 ll25 is25 ix25 sh25 so25 sb25 sm25 sp25 lv29 ll29 is29 ix29 sh29 so29 sb29 sm29 sp29 lv30 ll30 is30 ix30 sh30 so30 sb30 sm30 sp30 lv44 ll44 is44 ix44 sh44 so44 sb44 sm44 sp44 lv103 ll103 is103 ix103 sh103 so103 sb103 sm103 sp103 xs9 ls9 sx9 sy9 sz9

theorem br_out {F : AHeap} {br b : Nat} {K K2 : ABlk} (h : b ≠ br) : (F.set br K).set b K2 = (F.set b K2).set br K := set_comm (Ne.symm h)
theorem le_ch {F G : AHeap} {br : Nat} {K : ABlk} (h : AHeap.le F G) : AHeap.le (F.set br K) (G.set br K) := by
  intro c k hc
  by_cases c0 : c = br
  · subst c0; rw [AHeap.set_self] at hc ⊢; exact hc
  · rw [set_other c0] at hc ⊢; exact h c k hc
theorem le_s1 {F G : AHeap} {b : Nat} {A : ABlk} (h : AHeap.le F G) (hb : F b = none) : AHeap.le F (G.set b A) := by
  intro c k hc
  have c1 : c ≠ b := fun e => by rw [e, hb] at hc; cases hc
  rw [set_other c1]; exact h c k hc
theorem c_someTree (F : AHeap) (br n : Nat) (K : ABlk) (h : RdK n K) (hF : F br = none) (hn : n < 800000000) : ACalls Try.prog 57 [.ptr br 2 0 0] (F.set br K) fun r H' =>
    ∃ x l G K', r = .agg [x] ∧ Grow rClass 2 81 F G x l ∧ G br = none ∧ H' = G.set br K' ∧ RdK (n + 25) K' ∧ l.length ≤ 8 ∧ shortNames l := by
  refine acalls_of1 Try.func57 rfl (by kernel_rfl) rfl rfl (awp_sound (fz := fun _ => []) (im := fun _ => false) mixed _ _ _ _ (by kernel_rfl) ?_)
  simp +contextual -dsimp -implicitDefEqProofs (maxSteps := 5000000) only [go_sem, reduceIte, reduceCtorEq, Nat.reduceEqDiff, Nat.reduceBEq, Nat.reduceAdd, Nat.reduceLeDiff, Nat.reduceMul, Nat.reduceLT, Int.reduceEq, Int.reduceLT, Int.reduceLE]
  rintro b2 ⟨p1, p2, hb2⟩
  have n2 : ∀ K4, (F.set b2 K4) br = none := fun K4 => by rw [set_other p2]; exact hF
  rw [br_out p1]
  refine (c_goodTree _ br n K h (n2 _) (by omega)).mono ?_
  rintro _ _ ⟨x, l, G0, K1, rfl, hg0, hr0, rfl, hK1, hl1, hl8, hs⟩
  obtain ⟨G, hg, rfl, e2⟩ := grow_out hg0 hb2
  rw [set_other p2] at hr0
  -- the slice has a block of its own
  rcases hg with ⟨e, _, _⟩ | ⟨bx, clx, hbx, rfl, rfl⟩
  · rw [e] at hl1; simp at hl1
  simp +contextual -dsimp -implicitDefEqProofs (maxSteps := 5000000) only [go_sem, reduceIte, reduceCtorEq, Nat.reduceEqDiff, Nat.reduceBEq, Nat.reduceAdd, Nat.reduceLeDiff, Nat.reduceMul, Nat.reduceLT, Int.reduceEq, Int.reduceLT, Int.reduceLE]
  intro b3 hb3c
  obtain ⟨q1, q2, q3, q4, w1, w2, hb3f⟩ := hb3c
  have hb3 : (F.set bx ⟨2, 81, l.map rClass⟩) b3 = none := by rw [set_other w1]; exact hb3f
  rw [br_out q1]
  have n3 : ∀ (G : AHeap) (K2 K4 : ABlk), G br = none → ((G.set b2 K2).set b3 K4) br = none := fun G K2 K4 h => by rw [set_other q2, set_other p2]; exact h
  have hb3' := hb3
  have e2' := e2
  have hr' := hr0
  rw [set_none] at hb3' e2' hr'
  have w1 := hb3'.1
  have w2 := hb3'.2.1
  have w3 := e2'.1
  have w4 := e2'.2.1
  have w5 := hr'.1
  have w6 := hr'.2.1
  have fin : ∀ (l' : List Class) (K2 K3 : ABlk) (tm : Tm), l'.length = l.length → shortNames l' → RdK (n + 25) K3 → tm 2 = .ptr b2 1 0 0 → retR Try.prog [.cell 2 24] (fun r H' => ∃ x l G K', r = .agg [x] ∧ Grow rClass 2 81 F G x l ∧ G br = none ∧ H' = G.set br K' ∧ RdK (n + 25) K' ∧ l.length ≤ 8 ∧ shortNames l) tm
      ((((F.set bx ⟨2, 81, l'.map rClass⟩).set b2 ⟨1, 24, [[.sl bx 2 0 l.length clx]]⟩).set b3 K2).set br K3) := by
    intro l' K2 K3 tm hl' hs' hK h2
    have f2 : (F.set bx ⟨2, 81, l'.map rClass⟩) b2 = none := by rw [set_other w3]; exact hb2
    have f3 : (F.set bx ⟨2, 81, l'.map rClass⟩) b3 = none := by rw [set_other w1]; exact hb3'.2.2
    refine retR_less (l := [.agg [.sl bx 2 0 l.length clx]]) (H' := (F.set bx ⟨2, 81, l'.map rClass⟩).set br K3) ?_ (le_ch (le_s1 (le_s1 (AHeap.le_refl _) f2) f3)) ⟨_, l', _, K3, rfl, .inr ⟨bx, clx, hbx, by rw [hl'], rfl⟩, by rw [set_other w5]; exact hF, rfl, hK, by omega, hs'⟩
    simp only [resA, go_sem, reduceIte, reduceCtorEq, Nat.reduceEqDiff, Nat.reduceBEq, Nat.reduceAdd, Nat.reduceLeDiff, Nat.reduceMul, Nat.reduceLT, Int.reduceEq, Int.reduceLT, Int.reduceLE, p1, p2, q1, q2, q3, q4, h2]
  refine k_pick l.length hK1 (n3 _ _ _ hr0) (by omega) rfl fun v K2 v0 v1 v2 hK2 => ?_
  have vl := v1 (by omega)
  have vn : v.toNat < l.length := by omega
  simp +contextual -dsimp -implicitDefEqProofs (maxSteps := 5000000) only [go_sem, reduceIte, reduceCtorEq, Nat.reduceEqDiff, Nat.reduceBEq, Nat.reduceAdd, Nat.reduceLeDiff, Nat.reduceMul, Nat.reduceLT, Int.reduceEq, Int.reduceLT, Int.reduceLE, p1, p2, q1, q2, q3, q4, w1, w2, w3, w4, w5, w6]
  refine k_pick 24 hK2 (n3 _ _ _ hr0) (by omega) rfl fun z K3 z0 z1 z2 hK3 => ?_
  by_cases c0 : z = 0
  · simp +contextual -dsimp -implicitDefEqProofs (maxSteps := 5000000) only [go_sem, reduceIte, reduceCtorEq, Nat.reduceEqDiff, Nat.reduceBEq, Nat.reduceAdd, Nat.reduceLeDiff, Nat.reduceMul, Nat.reduceLT, Int.reduceEq, Int.reduceLT, Int.reduceLE, c0, p1, p2, q1, q2, q3, q4, w1, w2, w3, w4, w5, w6]
    refine draw_intro [0, 1, 0, 0, 0, 3, 0, 0, 2] _ (by kernel_rfl) (le_set (n3 _ _ _ hr0)) ?_
    simp +contextual -dsimp -implicitDefEqProofs (maxSteps := 5000000) only [go_sem, reduceIte, reduceCtorEq, Nat.reduceEqDiff, Nat.reduceBEq, Nat.reduceAdd, Nat.reduceLeDiff, Nat.reduceMul, Nat.reduceLT, Int.reduceEq, Int.reduceLT, Int.reduceLE, c0, p1, p2, q1, q2, q3, q4, w1, w2, w3, w4, w5, w6]
    refine k_of [[], [97, 110, 121], [65], [116, 111, 111, 108, 111, 110, 103]] _ hK3 (n3 _ _ _ hr0) (by omega) (by simp) rfl rfl fun s K4 hsm hK4 => ⟨le_set (n3 _ _ _ hr0), ?_⟩
    have hsl : s.length ≤ 10 := by simp at hsm; rcases hsm with rfl | rfl | rfl | rfl <;> decide
    simp +contextual -dsimp -implicitDefEqProofs (maxSteps := 5000000) only [go_sem, reduceIte, reduceCtorEq, Nat.reduceEqDiff, Nat.reduceBEq, Nat.reduceAdd, Nat.reduceLeDiff, Nat.reduceMul, Nat.reduceLT, Int.reduceEq, Int.reduceLT, Int.reduceLE, c0, p1, p2, q1, q2, q3, q4, w1, w2, w3, w4, w5, w6, v0, vl, vn]
    rw [wrO_y (y := { l.getD v.toNat default with name := s }) vn rfl]
    simp +contextual -dsimp -implicitDefEqProofs (maxSteps := 5000000) only [go_sem, reduceIte, reduceCtorEq, Nat.reduceEqDiff, Nat.reduceBEq, Nat.reduceAdd, Nat.reduceLeDiff, Nat.reduceMul, Nat.reduceLT, Int.reduceEq, Int.reduceLT, Int.reduceLE, c0, p1, p2, q1, q2, q3, q4, w1, w2, w3, w4, w5, w6, v0, vl, vn]
    refine fin (l.set v.toNat { l.getD v.toNat default with name := s }) _ K4 _ (by simp) (fun c hc => ?_) (rdk_mono hK4 (by omega)) ?_
    · rcases List.mem_or_eq_of_mem_set hc with q | rfl
      · exact hs c q
      · exact hsl
    · rfl
  · by_cases c1 : z = 1
    · simp +contextual -dsimp -implicitDefEqProofs (maxSteps := 5000000) only [go_sem, reduceIte, reduceCtorEq, Nat.reduceEqDiff, Nat.reduceBEq, Nat.reduceAdd, Nat.reduceLeDiff, Nat.reduceMul, Nat.reduceLT, Int.reduceEq, Int.reduceLT, Int.reduceLE, c0, c1, p1, p2, q1, q2, q3, q4, w1, w2, w3, w4, w5, w6]
      refine draw_intro [0, 1, 0, 0, 0, 0, 3, 0, 0, 2] _ (by kernel_rfl) (le_set (n3 _ _ _ hr0)) ?_
      simp +contextual -dsimp -implicitDefEqProofs (maxSteps := 5000000) only [go_sem, reduceIte, reduceCtorEq, Nat.reduceEqDiff, Nat.reduceBEq, Nat.reduceAdd, Nat.reduceLeDiff, Nat.reduceMul, Nat.reduceLT, Int.reduceEq, Int.reduceLT, Int.reduceLE, c0, p1, p2, q1, q2, q3, q4, w1, w2, w3, w4, w5, w6]
      refine k_one [v, -1, 8, -2] _ hK3 (n3 _ _ _ hr0) (by omega) (by simp) rfl rfl fun s K4 hsm hK4 => ⟨le_set (n3 _ _ _ hr0), ?_⟩
      simp +contextual -dsimp -implicitDefEqProofs (maxSteps := 5000000) only [go_sem, reduceIte, reduceCtorEq, Nat.reduceEqDiff, Nat.reduceBEq, Nat.reduceAdd, Nat.reduceLeDiff, Nat.reduceMul, Nat.reduceLT, Int.reduceEq, Int.reduceLT, Int.reduceLE, c0, p1, p2, q1, q2, q3, q4, w1, w2, w3, w4, w5, w6, v0, vl, vn]
      rw [wrO_y (y := { l.getD v.toNat default with parent := s }) vn rfl]
      simp +contextual -dsimp -implicitDefEqProofs (maxSteps := 5000000) only [go_sem, reduceIte, reduceCtorEq, Nat.reduceEqDiff, Nat.reduceBEq, Nat.reduceAdd, Nat.reduceLeDiff, Nat.reduceMul, Nat.reduceLT, Int.reduceEq, Int.reduceLT, Int.reduceLE, c0, p1, p2, q1, q2, q3, q4, w1, w2, w3, w4, w5, w6, v0, vl, vn]
      refine fin (l.set v.toNat { l.getD v.toNat default with parent := s }) _ K4 _ (by simp) (fun c hc => ?_) (rdk_mono hK4 (by omega)) ?_
      · rcases List.mem_or_eq_of_mem_set hc with q | rfl
        · exact hs c q
        · exact hs (l.getD v.toNat default) (by rw [List.getD_eq_getElem?_getD, List.getElem?_eq_getElem vn]; exact List.getElem_mem vn)
      · rfl
    · by_cases c2 : z = 2
      · simp +contextual -dsimp -implicitDefEqProofs (maxSteps := 5000000) only [go_sem, reduceIte, reduceCtorEq, Nat.reduceEqDiff, Nat.reduceBEq, Nat.reduceAdd, Nat.reduceLeDiff, Nat.reduceMul, Nat.reduceLT, Int.reduceEq, Int.reduceLT, Int.reduceLE, c0, c1, c2, p1, p2, q1, q2, q3, q4, w1, w2, w3, w4, w5, w6]
        refine retR_less (l := [.agg [.vsl [] true]]) (H' := F.set br K3) ?_ (le_ch (le_s1 (le_s1 (le_s1 (AHeap.le_refl _) hbx) hb2) hb3f)) ⟨_, [], F, K3, rfl, grow_nil, hF, rfl, rdk_mono hK3 (by omega), by simp, fun c hc => by cases hc⟩
        simp only [resA, go_sem, reduceIte, reduceCtorEq, Nat.reduceEqDiff, Nat.reduceBEq, Nat.reduceAdd, Nat.reduceLeDiff, Nat.reduceMul, Nat.reduceLT, Int.reduceEq, Int.reduceLT, Int.reduceLE, p1, p2, q1, q2, q3, q4, w1, w2, w3, w4, w5, w6]
      · simp +contextual -dsimp -implicitDefEqProofs (maxSteps := 5000000) only [go_sem, reduceIte, reduceCtorEq, Nat.reduceEqDiff, Nat.reduceBEq, Nat.reduceAdd, Nat.reduceLeDiff, Nat.reduceMul, Nat.reduceLT, Int.reduceEq, Int.reduceLT, Int.reduceLE, c0, c1, c2, p1, p2, q1, q2, q3, q4, w1, w2, w3, w4, w5, w6]
        refine fin l _ K3 _ rfl hs (rdk_mono hK3 (by omega)) ?_
        rfl
end Go.Proofs.Ytbjgilehnlpmaaa
end
section
set_option linter.unusedVariables false
set_option linter.unusedSimpArgs false
namespace Go.Proofs.Ytbjgilehnlpmaaa
open Go Go.Sim
set_option maxRecDepth 100000

theorem c_someTreeF (F : AHeap) (br n : Nat) (K : ABlk) (h : RdK n K) (hF : F br = none) (hn : n < 800000000) : ACalls Try.prog 57 [.ptr br 2 0 0] (F.set br K) fun r H' =>
    ∃ l cl K', r = aTree l cl ∧ H' = F.set br K' ∧ RdK (n + 25) K' ∧ l.length ≤ 8 ∧ shortNames l := by
  refine acalls_fz (c_someTree F br n K h hF hn) ?_
  rintro _ _ ⟨x, l, G, K', rfl, hg, hr, rfl, hK, hl, hs⟩
  have hg' := grow_in (K := K') hg hr
  obtain ⟨cl, hz⟩ := grow_fz hg'
  exact ⟨_, F.set br K', grow_le hg', fz_agg (.cons hz .nil), l, cl, K', rfl, rfl, hK, hl, hs⟩
end Go.Proofs.Ytbjgilehnlpmaaa
end
section
set_option linter.unusedVariables false
set_option linter.unusedSimpArgs false
namespace Go.Proofs.Ytbjgilehnlpmaaa
open Go Go.Sim
set_option maxRecDepth 100000

theorem bfsG_dch {h : List Fault} (ho : heapOk h) : ∀ (n : Nat) (pre : List Int) (f : Int), 0 ≤ f → f < h.length → f < n → (∀ a ∈ pre, f < a) → bfsG h n pre.length (pre ++ [f]) = pre ++ dchF h f
  | 0, pre, f, h0, h1, h2, _ => by omega
  | n + 1, pre, f, h0, h1, h2, h3 => by
    obtain ⟨o1, o2, o3⟩ := ho f.toNat (by omega)
    have e : (pre ++ [f]).getD pre.length default = f := by simp [List.getD_eq_getElem?_getD]
    have e1 : causeOf h f = -1 := o1
    have e2 : -1 ≤ ctxOf h f := o2
    have e3 : ctxOf h f < f := by have : ctxOf h f < f.toNat := o3
                                  omega
    simp only [bfsG]
    rw [if_pos (by simp), e, e1, dchF_step ho h0 h1]
    have a1 : addF (pre ++ [f]) (-1) = pre ++ [f] := by unfold addF; rw [if_neg (by omega)]
    rw [a1]
    by_cases hg : ctxOf h f < 0
    · have a2 : addF (pre ++ [f]) (ctxOf h f) = pre ++ [f] := by unfold addF; rw [if_neg (by omega)]
      rw [a2, dchF_neg hg]
      cases n with
      | zero => rfl
      | succ n => simp only [bfsG]; rw [if_neg (by simp)]
    · have a2 : addF (pre ++ [f]) (ctxOf h f) = (pre ++ [f]) ++ [ctxOf h f] := by
        have hany : ((pre ++ [f]).any fun x => decide (ctxOf h f = x)) = false := by
          rw [List.any_eq_false]
          intro a ha
          rcases List.mem_append.1 ha with q | q
          · have := h3 a q
            have : ¬ ctxOf h f = a := by omega
            simp [this]
          · simp at q
            have : ¬ ctxOf h f = a := by omega
            simp [this]
        unfold addF
        rw [if_pos ⟨by omega, hany⟩]
      rw [a2]
      have := bfsG_dch ho n (pre ++ [f]) (ctxOf h f) (by omega) (by omega) (by omega) (fun a ha => by
        rcases List.mem_append.1 ha with q | q
        · have := h3 a q; omega
        · simp at q; subst q; exact e3)
      rw [List.length_append] at this
      simpa using this
theorem bfsF_dch {h : List Fault} (ho : heapOk h) {f : Int} (h0 : 0 ≤ f) (h1 : f < h.length) : bfsF h f = dchF h f :=
  bfsG_dch ho (h.length + 1) [] f h0 h1 (by omega) (fun a ha => by cases ha)
theorem dchG_dec {h : List Fault} (ho : heapOk h) : ∀ (n : Nat) (f : Int), f < h.length → (dchG h n f).Pairwise (fun a b => b < a) ∧ ∀ a ∈ dchG h n f, a ≤ f
  | 0, f, _ => ⟨.nil, fun a ha => by cases ha⟩
  | n + 1, f, h1 => by
    simp only [dchG]
    split
    · rename_i h0
      obtain ⟨o1, o2, o3⟩ := ho f.toNat (by omega)
      have e3 : ctxOf h f < f := by have : ctxOf h f < f.toNat := o3
                                    omega
      obtain ⟨q1, q2⟩ := dchG_dec ho n (ctxOf h f) (by omega)
      refine ⟨.cons (fun a ha => by have := q2 a ha; omega) q1, fun a ha => ?_⟩
      rcases List.mem_cons.1 ha with q | q
      · omega
      · have := q2 a q; omega
    · exact ⟨.nil, fun a ha => by cases ha⟩
theorem fold_insF : ∀ (d out : List Int), d.Pairwise (fun a b => b < a) → (∀ a ∈ d, ∀ b ∈ out, a < b) → d.foldl insF out = d.reverse ++ out
  | [], out, _, _ => rfl
  | v :: d, out, hp, hm => by
    rw [List.foldl_cons]
    have hi : insF out v = v :: out := by
      have hk : insK out v = 0 := by
        cases out with
        | nil => rfl
        | cons b out => have := hm v (List.mem_cons_self ..) b (List.mem_cons_self ..)
                        have : ¬ b < v := by omega
                        simp [insK, this]
      unfold insF
      rw [hk, if_pos]
      · simp
      · cases out with
        | nil => exact .inl rfl
        | cons b out => have := hm v (List.mem_cons_self ..) b (List.mem_cons_self ..)
                        right; simp; omega
    obtain ⟨p1, p2⟩ := List.pairwise_cons.1 hp
    rw [hi, fold_insF d (v :: out) p2 (fun a ha b hb => ?_)]
    · simp
    · rcases List.mem_cons.1 hb with q | q
      · subst q; exact p1 a ha
      · exact hm a (List.mem_cons_of_mem _ ha) b q
theorem sortI_dec {d : List Int} (hp : d.Pairwise (fun a b => b < a)) : sortI d = d.reverse := by
  have s1 : (sortI d).Pairwise (fun a b => a ≤ b) := by
    have := List.pairwise_mergeSort (le := fun x y : Int => decide (x ≤ y)) (fun a b c h1 h2 => by simp at *; omega) (fun a b => by simp; omega) d
    exact this.imp (fun h => by simpa using h)
  have s2 : d.reverse.Pairwise (fun a b => a ≤ b) := by
    rw [List.pairwise_reverse]
    exact hp.imp (fun h => by omega)
  have pm : (sortI d).Perm d.reverse := (List.mergeSort_perm d _).trans (List.reverse_perm d).symm
  exact pm.eq_of_pairwise (fun a b _ _ h1 h2 => by omega) s1 s2
theorem sort_same {h : List Fault} (ho : heapOk h) {f : Int} (h0 : 0 ≤ f) (h1 : f < h.length) : sortI (bfsF h f) = sortedF (dchF h f) := by
  have hd := (dchG_dec ho (f + 1).toNat f h1).1
  rw [bfsF_dch ho h0 h1]
  unfold sortedF
  have := fold_insF (dchF h f) [] hd (fun a _ b hb => by cases hb)
  rw [this, List.append_nil]
  exact sortI_dec hd
theorem res_same {t : List Class} {s : Clo} {k : Nat} (hc : CloOk t s k) : resM s = resX s := by
  unfold resM resX
  by_cases h0 : 0 ≤ s.cur
  · rw [if_pos h0, if_pos h0]
    rw [sort_same hc.ho h0 hc.cur]
  · rw [if_neg h0, if_neg h0]
theorem resEq_refl (a : Res) : resEq a a = true := by
  simp [resEq]
end Go.Proofs.Ytbjgilehnlpmaaa
end
section
set_option linter.unusedVariables false
set_option linter.unusedSimpArgs false
namespace Go.Proofs.Ytbjgilehnlpmaaa
open Go Go.Sim
set_option maxRecDepth 100000

/-- The calls among exits. -/
def callsF (l : List Exi) : List Exi := l.filter fun e => decide (e.kind = 0)
theorem calls_take {l : List Exi} {k : Nat} (h : k < l.length) : callsF (l.take (k + 1)) = callsF (l.take k) ++ (if (l.getD k default).kind = 0 then [l.getD k default] else []) := by
  have e : l.getD k default = l[k] := by simp [List.getD_eq_getElem?_getD, h]
  rw [List.take_succ_eq_append_getElem h, callsF, List.filter_append, e, callsF]
  congr 1
  by_cases c : l[k].kind = 0 <;> simp [c]
theorem calls_le (l : List Exi) : (callsF l).length ≤ l.length := List.length_filter_le ..
theorem step_calm (t : List Class) (log : List Int) (fs : List Fault) (e : Exi) (h : e.kind ≠ 3) : stepX t ⟨log, fs, -1⟩ e = ⟨log ++ (callsF [e]).map (·.a), fs, -1⟩ := by
  unfold stepX callsF
  by_cases c0 : e.kind = 0
  · simp [c0]
  · by_cases c1 : e.kind = 1
    · simp [c1]
    · by_cases c2 : e.kind = 2
      · simp [c2]
      · simp [c0, c1, c2, h]
theorem fold_calm (t : List Class) : ∀ (m : List Exi) (log : List Int) (fs : List Fault), (∀ e ∈ m, e.kind ≠ 3) → m.foldl (stepX t) ⟨log, fs, -1⟩ = ⟨log ++ (callsF m).map (·.a), fs, -1⟩
  | [], log, fs, _ => by simp [callsF]
  | e :: m, log, fs, h => by
    rw [List.foldl_cons, step_calm t log fs e (h e (List.mem_cons_self ..)), fold_calm t m _ _ (fun a ha => h a (List.mem_cons_of_mem _ ha))]
    have : callsF (e :: m) = callsF [e] ++ callsF m := by rw [callsF, callsF, callsF, ← List.filter_append]; rfl
    rw [this, List.map_append, List.append_assoc]
theorem calls_rev (l : List Exi) : callsF l.reverse = (callsF l).reverse := by simp [callsF, List.filter_reverse]
/-- With no start and no raise the end is calm, and the log tells the calls backwards. -/
theorem res_calm {t : List Class} {l : List Exi} {x : Sta} (hx : x.has = false) (h : ∀ e ∈ l, e.kind ≠ 3) : resX (closeX t l x) = ⟨((callsF l).reverse).map (·.a), 0, 0, []⟩ := by
  have e : closeX t l x = ⟨((callsF l).reverse).map (·.a), [], -1⟩ := by
    unfold closeX startX
    rw [if_neg (by simp [hx]), fold_calm t _ _ _ (fun a ha => h a (List.mem_reverse.1 ha)), calls_rev, List.nil_append]
  rw [e]
  simp [resX]
end Go.Proofs.Ytbjgilehnlpmaaa
end
section
set_option linter.unusedVariables false
set_option linter.unusedSimpArgs false
namespace Go.Proofs.Ytbjgilehnlpmaaa
open Go Go.Sim Go.ChangeShapes Go.WideShapes Go.ChangeAt Go.RowKit
set_option maxRecDepth 100000
set_option linter.unusedVariables false

theorem own : ownKnob Try.prog.godebug = none := by kernel_rfl
theorem laidOut : laidOutB Try.prog = true := by kernel_rfl
/-- What the walk is told of bytes that came in. -/
def IsRow (k : IntKind) (w : World) (a : Option Addr) (len cap : Nat) (zs : List Int) : Prop :=
  (a = none ∧ len = 0 ∧ cap = 0 ∧ zs = []) ∨
  ∃ b off, a = some ⟨b, off, none⟩ ∧ b < w.heap.size ∧ len ≤ cap ∧ cap ≤ maxLen ∧ zs.length = cap ∧ (∀ i, i < zs.length → w.cell? ⟨b, off + i, none⟩ = some (.int k (zs.getD i 0))) ∧ ∀ n ∈ zs, (Lit.int k n).wf = true

theorem none_dom (b : Nat) : ¬ AHeap.none.dom b := fun h => h rfl
theorem hrel_none (w : World) : HRel AHeap.none w := ⟨fun b k h => by cases h⟩
theorem shape_lt {w : World} {b : Nat} {x : TypeId × Nat} (h : w.shape? b = some x) : b < w.heap.size := by
  unfold World.shape? at h
  rcases Nat.lt_or_ge b w.heap.size with q | q
  · exact q
  · rw [Array.getElem?_eq_none q] at h; cases h
theorem row_rel {w : World} {a : Option Addr} {len cap : Nat} {zs : List Int} (h : IsRow .u8 w a len cap zs) : ∃ bs : List UInt8, Rel AHeap.none.dom w (.vsl (bs.map rU) false) (.slice a len cap) := by
  rcases h with ⟨rfl, rfl, rfl, rfl⟩ | ⟨b, off, rfl, hb, hl, hm, hz, hcell, hwz⟩
  · exact ⟨[], .vnil false⟩
  · refine ⟨(zs.take len).map fun n => UInt8.ofNat n.toNat, ?_⟩
    have hlen : (((zs.take len).map fun n => UInt8.ofNat n.toNat).map rU).length = len := by simp; omega
    have row : ∀ (p : Nat) (r : List AV), (((zs.take len).map fun n => UInt8.ofNat n.toNat).map rU)[p]? = some r → p < zs.length ∧ r = [.lit (.int .u8 (zs.getD p 0))] := by
      intro p r hp
      obtain ⟨hp1, hp2⟩ := List.getElem?_eq_some_iff.1 hp
      rw [hlen] at hp1
      have hp3 : p < zs.length := by omega
      refine ⟨hp3, ?_⟩
      have hw := hwz (zs.getD p 0) (by rw [List.getD_eq_getElem?_getD, List.getElem?_eq_getElem hp3]; exact List.getElem_mem hp3)
      rw [← hp2]
      have e : zs.getD p 0 = zs[p] := by simp [List.getD_eq_getElem?_getD, hp3]
      simp only [List.getElem_map, List.getElem_take, e] at hw ⊢
      have h0 : 0 ≤ zs[p] ∧ zs[p] ≤ 255 := by simpa [Lit.wf, IntKind.min, IntKind.max, IntKind.signed, IntKind.bits] using hw
      have h1 : ((UInt8.ofNat zs[p].toNat).toNat : Int) = zs[p] := by
        rw [UInt8.toNat_ofNat']
        omega
      show [AV.lit (.int .u8 _)] = _
      rw [h1]
    have key := Rel.vsl (O := AHeap.none.dom) (w := w) (((zs.take len).map fun n => UInt8.ofNat n.toNat).map rU) false b off 1 cap (fun p _ => .int .u8 (zs.getD p 0)) (by rw [hlen]; exact hl) hm (fun h => by cases h) (none_dom b) hb ?_ ?_ ?_ ?_
    · rw [hlen] at key
      exact key
    · intro p r hp
      rw [(row p r hp).2]; rfl
    · intro p q r x hp hx
      obtain ⟨h1, rfl⟩ := row p r hp
      cases q with
      | zero => rw [Nat.mul_one, Nat.add_zero]; exact hcell p h1
      | succ q => simp at hx
    · intro p q r x hp hx; rfl
    · intro p q r x hp hx
      obtain ⟨h1, rfl⟩ := row p r hp
      cases q with
      | zero => simp at hx; subst hx; exact .lit _
      | succ q => simp at hx
/-- Behind a call over nothing of its own: what was there reads as it did. -/
theorem below_of {H' : AHeap} {w w' : World} (h : Ev AHeap.none.dom w w') : Below w.heap.size w w' :=
  ⟨h.os, h.tape, h.output, h.size, fun k hk => h.keep k hk (none_dom k)⟩
/-- A law of bytes that answers true, as the frame takes it. -/
theorem law_walk {f : FuncId} (hc : ∀ (bs : List UInt8) (cb : Bool) (H : AHeap), ACalls Try.prog f [.vsl (bs.map rU) cb] H fun r H' => r = B true ∧ H' = H)
    {a : Option Addr} {len cap : Nat} {zs : List Int} {w : World} (h : IsRow .u8 w a len cap zs) :
    Calls Try.prog f #[.slice a len cap] w fun e w' => e = .returned (.bool true) ∧ Below w.heap.size w w' := by
  obtain ⟨bs, hr⟩ := row_rel h
  refine ((hc bs false AHeap.none).2 w #[.slice a len cap] (hrel_none w) (RelL.cons hr (RelL.nil _ _))).mono ?_
  rintro e w' ⟨v, r, H', rfl, ⟨rfl, rfl⟩, hv, _, hev, _⟩
  cases hv
  exact ⟨rfl, below_of (H' := AHeap.none) hev⟩
end Go.Proofs.Ytbjgilehnlpmaaa
end
section
set_option linter.unusedVariables false
set_option linter.unusedSimpArgs false
namespace Go.Proofs.Ytbjgilehnlpmaaa
open Go Go.Sim
set_option maxRecDepth 100000

/-- Lines with their blocks: the first line, its block, and the lines behind it. -/
inductive Fo where
  | nil
  | node (k a b : Int) (kids rest : Fo)
  deriving Inhabited
def Fo.size : Fo → Nat
  | .nil => 0
  | .node _ _ _ kids rest => 1 + kids.size + rest.size
def Fo.flat : Fo → Int → List Line
  | .nil, _ => []
  | .node k a b kids rest, d => ⟨d, k, a, b⟩ :: (kids.flat (d + 1) ++ rest.flat d)
theorem flat_len : ∀ (f : Fo) (d : Int), (f.flat d).length = f.size
  | .nil, _ => rfl
  | .node k a b kids rest, d => by simp only [Fo.flat, Fo.size, List.length_cons, List.length_append, flat_len kids, flat_len rest]; omega
theorem flat_deep : ∀ (f : Fo) (d : Int), ∀ x ∈ f.flat d, d ≤ x.depth
  | .nil, _, x, h => by simp [Fo.flat] at h
  | .node k a b kids rest, d, x, h => by
    simp only [Fo.flat, List.mem_cons, List.mem_append] at h
    rcases h with rfl | h | h
    · exact Int.le_refl _
    · have := flat_deep kids (d + 1) x h; omega
    · exact flat_deep rest d x h
/-- What comes behind a block is less deep. -/
def Low (d : Int) (post : List Line) : Prop := ∀ l r, post = l :: r → l.depth < d
theorem low_nil (d : Int) : Low d [] := fun l r h => by cases h
theorem low_flat {f : Fo} {d : Int} {post : List Line} (h : Low d post) : Low (d + 1) (f.flat d ++ post) := by
  intro l r e
  cases f with
  | nil => have := h l r e; omega
  | node k a b kids rest =>
    simp only [Fo.flat, List.cons_append] at e
    injection e with e1 e2
    rw [← e1]
    show d < d + 1
    omega
/-- Where a line's block ends. -/
def endP (p : List Line) (i : Nat) : Nat := i + 1 + ((p.drop (i + 1)).takeWhile fun x => decide ((p.getD i default).depth < x.depth)).length
theorem endP_le {p : List Line} {i : Nat} (h : i < p.length) : endP p i ≤ p.length := by
  unfold endP
  have h1 : ((p.drop (i + 1)).takeWhile fun x => decide ((p.getD i default).depth < x.depth)).length ≤ (p.drop (i + 1)).length := (List.takeWhile_sublist _).length_le
  rw [List.length_drop] at h1
  omega
theorem endP_gt (p : List Line) (i : Nat) : i < endP p i := by unfold endP; omega
theorem endP_is {p : List Line} {i k : Nat} (h0 : i < k) (h1 : k ≤ p.length) (h2 : ∀ j, i < j → j < k → (p.getD i default).depth < (p.getD j default).depth) (h3 : k < p.length → ¬ (p.getD i default).depth < (p.getD k default).depth) : endP p i = k := by
  unfold endP
  generalize hd : (p.getD i default).depth = d at h2 h3
  have e : p.drop (i + 1) = (p.take k).drop (i + 1) ++ p.drop k := by
    rw [List.drop_take]
    have : p.drop k = (p.drop (i + 1)).drop (k - (i + 1)) := by rw [List.drop_drop]; congr 1; omega
    rw [this, List.take_append_drop]
  have l1 : ((p.take k).drop (i + 1)).length = k - (i + 1) := by simp; omega
  have a1 : ∀ x ∈ (p.take k).drop (i + 1), decide (d < x.depth) = true := by
    intro x hx
    obtain ⟨j, hj, rfl⟩ := List.mem_iff_getElem.1 hx
    have hj' : i + 1 + j < k := by omega
    have := h2 (i + 1 + j) (by omega) hj'
    rw [List.getD_eq_getElem?_getD, List.getElem?_eq_getElem (by omega)] at this
    simpa using this
  rw [e, List.takeWhile_append_of_pos a1, List.length_append, l1]
  have : (p.drop k).takeWhile (fun x => decide (d < x.depth)) = [] := by
    rcases Nat.lt_or_ge k p.length with q | q
    · rw [List.drop_eq_getElem_cons q]
      have := h3 q
      rw [List.getD_eq_getElem?_getD, List.getElem?_eq_getElem q] at this
      simp only [Option.getD_some] at this
      rw [List.takeWhile_cons_of_neg (by simpa using this)]
    · rw [List.drop_eq_nil_of_le q]; rfl
  rw [this]
  simp
  omega

/-- At a place of a program stand lines of a depth, with their blocks, and no others of their block behind. -/
def At (p : List Line) (i : Nat) (d : Int) (f : Fo) : Prop := ∃ pre post, p = pre ++ (f.flat d ++ post) ∧ pre.length = i ∧ Low d post
section
variable {p : List Line} {i : Nat} {d k a b : Int} {f ks re : Fo}
theorem At.len (h : At p i d f) : i + f.size ≤ p.length := by
  obtain ⟨pre, post, rfl, rfl, _⟩ := h
  simp [flat_len]
theorem At.head (h : At p i d (.node k a b ks re)) : i < p.length ∧ p.getD i default = ⟨d, k, a, b⟩ := by
  have hl := h.len
  refine ⟨by simp only [Fo.size] at hl; omega, ?_⟩
  obtain ⟨pre, post, rfl, rfl, _⟩ := h
  simp [Fo.flat]
theorem At.kids (h : At p i d (.node k a b ks re)) : At p (i + 1) (d + 1) ks := by
  obtain ⟨pre, post, rfl, rfl, hp⟩ := h
  exact ⟨pre ++ [⟨d, k, a, b⟩], re.flat d ++ post, by simp [Fo.flat], by simp, low_flat hp⟩
theorem At.rest (h : At p i d (.node k a b ks re)) : At p (i + 1 + ks.size) d re := by
  obtain ⟨pre, post, rfl, rfl, hp⟩ := h
  exact ⟨pre ++ ⟨d, k, a, b⟩ :: ks.flat (d + 1), post, by simp [Fo.flat], by simp [flat_len]; omega, hp⟩
theorem At.stop (h : At p i d .nil) (hi : i < p.length) : (p.getD i default).depth < d := by
  obtain ⟨pre, post, rfl, rfl, hp⟩ := h
  cases post with
  | nil => simp [Fo.flat] at hi
  | cons l r => have := hp l r rfl; simpa [Fo.flat] using this
theorem At.deep (h : At p i d f) {j : Nat} (h0 : i ≤ j) (h1 : j < i + f.size) : d ≤ (p.getD j default).depth := by
  have hl := h.len
  obtain ⟨pre, post, rfl, rfl, hp⟩ := h
  have e : (pre ++ (f.flat d ++ post)).getD j default = (f.flat d).getD (j - pre.length) default := by
    simp only [List.getD_eq_getElem?_getD]
    rw [List.getElem?_append_right h0, List.getElem?_append_left (by rw [flat_len]; omega)]
  rw [e, List.getD_eq_getElem?_getD, List.getElem?_eq_getElem (by rw [flat_len]; omega)]
  exact flat_deep f d _ (List.getElem_mem _)
theorem At.low (h : At p i d f) (hi : i + f.size < p.length) : (p.getD (i + f.size) default).depth < d := by
  obtain ⟨pre, post, rfl, rfl, hp⟩ := h
  cases post with
  | nil => simp [flat_len] at hi
  | cons l r =>
    have := hp l r rfl
    simp only [List.getD_eq_getElem?_getD]
    rw [List.getElem?_append_right (by omega), List.getElem?_append_right (by rw [flat_len]; omega), flat_len]
    simpa using this
theorem At.top (h : At p i d f) {j : Nat} (hj : i ≤ j) (h2 : j < p.length) (h3 : j ≤ i + f.size) (hf : ∀ k a b kids rest, f = .node k a b kids rest → j = i → (p.getD j default).depth ≤ d) : j = i → (p.getD j default).depth ≤ d := by
  intro e
  subst e
  cases f with
  | nil => have := h.stop h2; omega
  | node k a b kids rest => exact hf _ _ _ _ _ rfl rfl
theorem At.first (h : At p i d f) (hi : i < p.length) : (p.getD i default).depth ≤ d := by
  cases f with
  | nil => have := h.stop hi; omega
  | node k a b kids rest => rw [h.head.2]; exact Int.le_refl _
theorem At.endP (h : At p i d (.node k a b ks re)) : endP p i = i + 1 + ks.size := by
  have hk := h.kids
  have hl := hk.len
  have hd : (p.getD i default).depth = d := by rw [h.head.2]
  refine endP_is (by omega) hl (fun j h1 h2 => ?_) (fun h1 => ?_)
  · have := hk.deep (j := j) (by omega) (by omega)
    omega
  · have := h.rest.first h1
    omega
end
theorem at_top {f : Fo} {p : List Line} (h : p = f.flat 0) : At p 0 0 f := ⟨[], [], by simp [h], rfl, low_nil _⟩

def opensK (k : Int) : Bool := inR k 7 12
def followsK (k : Int) : Bool := inR k 8 10
def jumpsK (k : Int) : Bool := inR k 2 6
/-- The places of the first lines that go on with a try. -/
def chainN : Fo → Nat → List Nat
  | .nil, _ => []
  | .node k _ _ kids rest, i => if followsK k = true then i :: chainN rest (i + 1 + kids.size) else []
def skipF : Fo → Fo
  | .nil => .nil
  | .node k a b kids rest => if followsK k = true then skipF rest else .node k a b kids rest
def skipN : Fo → Nat → Nat
  | .nil, i => i
  | .node k _ _ kids rest, i => if followsK k = true then skipN rest (i + 1 + kids.size) else i
def headsK : Fo → List Int
  | .nil => []
  | .node k _ _ _ rest => if followsK k = true then k :: headsK rest else []
/-- The places of the lines of a block. -/
def sibN : Fo → Nat → List Nat
  | .nil, _ => []
  | .node _ _ _ kids rest, i => i :: sibN rest (i + 1 + kids.size)
def tailP (p : List Line) (d : Int) : Nat → Nat → List Nat
  | 0, _ => []
  | n + 1, k => if k < p.length ∧ (p.getD k default).depth = d ∧ followsK (p.getD k default).kind = true then k :: tailP p d n (endP p k) else []
def chainP (p : List Line) (i : Nat) : List Nat := i :: tailP p (p.getD i default).depth p.length (endP p i)
def sibP (p : List Line) (to : Nat) : Nat → Nat → List Nat
  | 0, _ => []
  | n + 1, i => if i < to then i :: sibP p to n (endP p i) else []
theorem tailP_at {p : List Line} : ∀ (f : Fo) (n i : Nat) (d : Int), At p i d f → p.length ≤ n + i → tailP p d n i = chainN f i
  | .nil, n, i, d, h, hn => by
    cases n with
    | zero => rfl
    | succ n =>
      simp only [tailP, chainN]
      rw [if_neg]
      rintro ⟨h1, h2, _⟩
      have := h.stop h1
      omega
  | .node k a b kids rest, n, i, d, h, hn => by
    have hh := h.head
    cases n with
    | zero => omega
    | succ n =>
      simp only [tailP, chainN]
      rw [hh.2]
      by_cases hk : followsK k = true
      · rw [if_pos ⟨hh.1, rfl, hk⟩, if_pos hk, h.endP]
        rw [tailP_at rest n _ d h.rest (by omega)]
      · rw [if_neg (fun q => hk q.2.2), if_neg hk]
theorem chainP_at {p : List Line} {i : Nat} {d k a b : Int} {kids rest : Fo} (h : At p i d (.node k a b kids rest)) : chainP p i = i :: chainN rest (i + 1 + kids.size) := by
  have hd : (p.getD i default).depth = d := by rw [h.head.2]
  unfold chainP
  rw [hd, h.endP, tailP_at rest _ _ d h.rest (by omega)]
theorem sibP_at {p : List Line} : ∀ (f : Fo) (n i : Nat) (d : Int), At p i d f → f.size ≤ n → sibP p (i + f.size) n i = sibN f i
  | .nil, n, i, d, h, hn => by
    cases n with
    | zero => rfl
    | succ n => simp only [sibP, sibN]; rw [if_neg (by simp [Fo.size])]
  | .node k a b kids rest, n, i, d, h, hn => by
    simp only [Fo.size] at hn
    cases n with
    | zero => omega
    | succ n =>
      simp only [sibP, sibN]
      rw [if_pos (by simp only [Fo.size]; omega), h.endP]
      have := sibP_at rest n (i + 1 + kids.size) d h.rest (by omega)
      have e : i + (Fo.node k a b kids rest).size = i + 1 + kids.size + rest.size := by simp only [Fo.size]; omega
      rw [e, this]
section
variable {p : List Line} {i : Nat} {d : Int}
theorem At.skip : ∀ {f : Fo} {i : Nat}, At p i d f → At p (skipN f i) d (skipF f)
  | .nil, i, h => h
  | .node k a b kids rest, i, h => by
    simp only [skipN, skipF]
    split
    · exact At.skip h.rest
    · exact h
theorem skipN_add : ∀ (f : Fo) (i : Nat), skipN f i + (skipF f).size = i + f.size
  | .nil, i => rfl
  | .node k a b kids rest, i => by
    simp only [skipN, skipF]
    split
    · rw [skipN_add rest]; simp only [Fo.size]; omega
    · rfl
theorem skipF_size : ∀ (f : Fo), (skipF f).size ≤ f.size
  | .nil => Nat.le_refl _
  | .node k a b kids rest => by
    simp only [skipF]
    split
    · have := skipF_size rest; simp only [Fo.size]; omega
    · exact Nat.le_refl _
theorem skipF_none : ∀ (f : Fo), skipF f = .nil ∨ ∃ k a b kids rest, skipF f = .node k a b kids rest ∧ followsK k = false
  | .nil => .inl rfl
  | .node k a b kids rest => by
    simp only [skipF]
    split
    · exact skipF_none rest
    · rename_i h; exact .inr ⟨k, a, b, kids, rest, rfl, by simpa using h⟩
/-- Behind the last line of a try. -/
theorem chain_end : ∀ (f : Fo) (i j : Nat), At p i d f → endP p j = i → endP p ((j :: chainN f i).getLastD 0) = skipN f i
  | .nil, i, j, h, hj => by simpa [chainN, skipN] using hj
  | .node k a b kids rest, i, j, h, hj => by
    simp only [chainN, skipN]
    split
    · have := chain_end rest (i + 1 + kids.size) i h.rest h.endP
      simpa using this
    · simpa using hj
end
end Go.Proofs.Ytbjgilehnlpmaaa
end
