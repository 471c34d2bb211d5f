/- Walks and plain laws that the claims of this seat lean on. No condition. -/
import Derived.Test.YtjpfgafdjlkblaaGreatJ1
import Derived.Test.YtjpfgafdjlkblaaGreatRows
import Derived.WalkKit
import Derived.ProofKit
import Derived.OpenShut
import Derived.ShutString
import Derived.ChangeOld
import Derived.Below
set_option linter.unusedVariables false
set_option linter.unusedSimpArgs false
namespace Go.Proofs.YtjpfgafdjlkblaaGreat
open Go Go.Sim
section
set_option maxRecDepth 100000
attribute [local go_sem ↓] aw_skip aw_ret aw_exit aw_region aw_draw aw_seq aw_block aw_loop aw_cond frz_nil frz_cons sq_normal sq_ret sq_exit exB_normal exB_ret exB_same exB_other retQ_ret retQ_normal ret0_ret ret0_normal ao_nil go1 g_move g_assign g_pick g_build g_load g_binOp g_unOp g_convert g_fieldAddr g_field g_indexAddr g_index g_extract g_lookup g_slice g_nilCheck g_len g_makeFunc h_call h_append h_alloc h_box h_buildSlice h_makeSlice h_store gV i_box i_buildSlice i_move i_assign i_build i_load i_binOp i_unOp i_convert i_fieldAddr i_field i_indexAddr i_index i_extract i_lookup i_makeMap i_mapUpdate i_slice i_nilCheck i_makeFunc i_len i_max i_min i_alloc i_makeSlice i_store i_append i_call i_pick boxI boxA buildSliceI buildSliceA makeSliceA makeMapA allocA storeA p_move p_assign p_pick p_build p_load p_binOp p_unOp p_convert p_fieldAddr p_field p_indexAddr p_index p_extract p_lookup p_makeMap p_mapUpdate p_slice p_nilCheck p_makeFunc p_len p_max p_min p_alloc p_box p_buildSlice p_makeSlice p_store p_append p_call x_nil x_go1 x_g0 x_g1 x_g2 x_g3 x_s0 x_s1 x_s2 x_s3 u_move u_assign u_pick u_build u_load u_binOp u_unOp u_convert u_fieldAddr u_field u_indexAddr u_index u_extract u_lookup u_slice u_nilCheck u_makeFunc u_len u_buildSlice x_s4 x_g4 rq_normal rq_ret rq_exit aw_range
attribute [local go_sem] frzV_sl frzK_some set_none set_other AHeap.set_self set_del set_set cnd_t cnd_f cnd_b retA_one retA_two retA_three retA_four retA_nil gIf_b mrgV_b mrgV_wh mrgV_U gIf_U gIf_wh mrgB_f mrgB_some mrgB_if wh_true wh_false keepA_some keepA_if gD_zero gD_succ gT_some bxA_t bxA_f callA_fn ev_tmp ev_const ev_global ev_func oc_bool oc_int oc_string oc_nil oc_nilptr oc_nilfunc cl_bool cl_int cl_string cl_nil updO_some updO_none upd_same upd_other init_at pickA_b pickA_wh selA_t selA_f selA_and selA_or selA_orn selA_orm selA_bb selA_ii beqt b_add b_sub b_mul b_and b_or b_xor b_eql b_neq b_lss b_leq b_gtr b_geq b_quo b_rem b_shr b_seql b_sneq b_sadd b_beql b_bneq b_aeql b_aneq u_not u_neg isConstOp eqA eqCellV List.getD_cons_zero List.getD_cons_succ List.map_cons List.map_nil List.nil_append List.cons_append List.append_nil if_true if_false Option.map_some Option.map_none ne_eq not_false_eq_true oneA ldv ld1v ld1s wr1s ldRow stRow row_lit row_agg row_vsl row_sl row_ptr row_fn one_I one_B one_S one_vsl one_sl one_ptr one_fn extractA okA rI rS rU rClass rFault rExit rStart rLine Int.toNat_natCast List.length_cons List.length_nil List.length_map List.all_cons List.all_nil Bool.and_true Nat.zero_add List.getElem?_cons_zero List.getElem?_cons_succ List.take_succ_cons List.take_zero List.drop_succ_cons List.drop_zero and_self true_and and_true implies_true decide_eq_true_eq decide_eq_false_iff_not Bool.or_eq_true Bool.or_eq_false_iff Bool.and_eq_true Bool.not_eq_true' Bool.not_eq_false' beq_false decide_true decide_false Int.ofNat_lt Int.ofNat_le Int.natCast_nonneg Bool.or_true Bool.or_false Bool.true_or Bool.false_or beq_self_eq_true List.drop_one Bool.not_true Bool.not_false Bool.not_not Bool.false_eq_true Bool.true_eq_false false_implies true_implies Bool.true_and Bool.false_and Bool.and_false not_true_eq_false Int.natCast_eq_zero Int.natCast_pos Int.natCast_zero false_and and_false or_false false_or or_true true_or Bool.or_self none_le_iff List.replicate_zero Int.toNat_zero List.replicate_succ buildRows List.set_cons_zero List.set_cons_succ List.set_nil List.mapM_nil maxLen_eq Nat.zero_le Nat.mul_one Nat.one_mul bldA fillA spliceA List.take_nil List.drop_nil List.getElem?_nil ld1o wr1o bldSliceA le_same cv_i cvI_t quietT_fn qvd_some ld_o ldO_1 ldO_l wr_o wrO_1 set_2 set_3 set_4 putL_nil putL_cons List.zip_cons_cons List.zip_nil_left List.zip_nil_right List.toList_toArray frzV_set ti1 ti2 tk2 ti3 te3 ts3 tk3 tz3 ti4 tb4 ti5 tk5 tz5 ti9 te9 ts9 tk9 tz9 ti20 ti22 te22 tz22 ti23 te23 ti25 tp25 tf25_0 ti26 te26 ti29 te29 ti30 te30 ti32 tp32 tf32_0 ti34 tp34 tf34_0 tf34_1 tf34_2 tf34_3 ti41 tq41 tp41 tf41_0 tf41_1 tf41_2 tf41_3 ti44 tq44 tp44 tf44_0 tf44_1 tf44_2 ti45 te45 ti47 tq47 tp47 tf47_0 tf47_1 tf47_2 ti82 ti84 ti88 tq88 tp88 tf88_0 tf88_1 ti103 tq103 tp103 tf103_0 tf103_1 tf103_2 tf103_3 tf103_4 ti106 ti109 ti124 ti127 tp127 tf127_0 tf127_1 ti129 tp129 tf129_0 tf129_1 tf129_2 tf129_3 tf129_4 ti136 ti138 tp138 tf138_0 tf138_1 tf138_2 tf138_3 ti140 tq140 tp140 tf140_0 tf140_1 ti144 tq144 tp144 tf144_0 tf144_1 ti149 te149 ti151 te151 ti164 ti165 ti167 ti177 te177 ti186 ti202 ti205 tk205 tz205 ti209 tk209 ti217 tk217 tz217 ti219 tk219 tz219 ti220 tk220 ti224 ti226 fp13_0 fv13_0 fp13_1 fv13_1 fp24_0 fv24_0 fp25_0 fv25_0 fp31_0 fv31_0 fp32_0 fv32_0 fp33_0 fv33_0 fp33_1 fv33_1 fp33_2 fv33_2 fp33_3 fv33_3 fp34_0 fv34_0 fp34_1 fv34_1 fp34_2 fv34_2 fp34_3 fv34_3 fp40_0 fv40_0 fp40_1 fv40_1 fp40_2 fv40_2 fp40_3 fv40_3 fp41_0 fv41_0 fp41_1 fv41_1 fp41_2 fv41_2 fp41_3 fv41_3 fp43_0 fv43_0 fp43_1 fv43_1 fp43_2 fv43_2 fp44_0 fv44_0 fp44_1 fv44_1 fp44_2 fv44_2 fp46_0 fv46_0 fp46_1 fv46_1 fp46_2 fv46_2 fp47_0 fv47_0 fp47_1 fv47_1 fp47_2 fv47_2 fp57_0 fv57_0 fp58_0 fv58_0 fp72_0 fv72_0 fp72_1 fv72_1 fp72_2 fv72_2 fp87_0 fv87_0 fp87_1 fv87_1 fp88_0 fv88_0 fp88_1 fv88_1 fp102_0 fv102_0 fp102_1 fv102_1 fp102_2 fv102_2 fp102_3 fv102_3 fp102_4 fv102_4 fp103_0 fv103_0 fp103_1 fv103_1 fp103_2 fv103_2 fp103_3 fv103_3 fp103_4 fv103_4 fp113_0 fv113_0 fp113_1 fv113_1 fp113_2 fv113_2 fp113_3 fv113_3 fp120_0 fv120_0 fp120_1 fv120_1 fp120_2 fv120_2 fp126_0 fv126_0 fp126_1 fv126_1 fp127_0 fv127_0 fp127_1 fv127_1 fp128_0 fv128_0 fp128_1 fv128_1 fp128_2 fv128_2 fp128_3 fv128_3 fp128_4 fv128_4 fp129_0 fv129_0 fp129_1 fv129_1 fp129_2 fv129_2 fp129_3 fv129_3 fp129_4 fv129_4 fp137_0 fv137_0 fp137_1 fv137_1 fp137_2 fv137_2 fp137_3 fv137_3 fp138_0 fv138_0 fp138_1 fv138_1 fp138_2 fv138_2 fp138_3 fv138_3 fp139_0 fv139_0 fp139_1 fv139_1 fp140_0 fv140_0 fp140_1 fv140_1 fp143_0 fv143_0 fp143_1 fv143_1 fp144_0 fv144_0 fp144_1 fv144_1 fp158_0 fv158_0 fp158_1 fv158_1 fp158_2 fv158_2 fp159_0 fv159_0 fp159_1 fv159_1 fp159_2 fv159_2 fp169_0 fv169_0 fp169_1 fv169_1 lv22 ll22 is22 ix22 sh22 so22 sb22 sm22 sp22 lv23 ll23 is23 ix23 sh23 so23 sb23 sm23 sp23 lv26 ll26 is26 ix26 sh26 so26 sb26 sm26 sp26 lv29 ll29 is29 ix29 sh29 so29 sb29 sm29 sp29 lv30 ll30 is30 ix30 sh30 so30 sb30 sm30 sp30 lv45 ll45 is45 ix45 sh45 so45 sb45 sm45 sp45 lv56 ll56 is56 sp56 lv59 ll59 is59 sp59 lv71 ll71 is71 sp71 lv149 ll149 is149 sp149 lv151 ll151 is151 sp151 lv177 ll177 is177 ix177 sh177 so177 sb177 sm177 sp177 xs9 ls9 sx9 sy9 sz9
section
open Go Go.Sim
set_option maxRecDepth 100000

def OwnRes (F H : AHeap) (r : AV) (R : Res) : Prop := ∃ xl xh G1, r = .agg [xl, I R.ed, I R.val, xh] ∧ Grow rI 1 3 F G1 xl R.log ∧ Grow rFault 5 103 G1 H xh R.heap
def res0 : Res := ⟨[], 0, 0, []⟩
theorem own0 (H : AHeap) : OwnRes H H (.agg [.vsl [] true, I 0, I 0, .vsl [] true]) res0 := ⟨_, _, H, rfl, .inl ⟨rfl, rfl, rfl⟩, .inl ⟨rfl, rfl, rfl⟩⟩
theorem own_out {F H : AHeap} {r : AV} {R : Res} {c : Nat} {K : ABlk} (h : OwnRes (F.set c K) H r R) (hc : F c = none) : ∃ H', H = H'.set c K ∧ OwnRes F H' r R ∧ H' c = none := by
 obtain ⟨xl, xh, G1, h1, h2, h3⟩ := h
 obtain ⟨G2, k1, rfl, k2⟩ := grow_out h2 hc
 obtain ⟨G3, k3, rfl, k4⟩ := grow_out h3 k2
 exact ⟨G3, rfl, ⟨xl, xh, G2, h1, k1, k3⟩, k4⟩
theorem own_row {F H : AHeap} {r : AV} {R : Res} (h : OwnRes F H r R) : ∃ xl xh, r = .agg [xl, I R.ed, I R.val, xh] ∧ xl.one = true ∧ xh.one = true := by
 obtain ⟨xl, xh, G1, h1, h2, h3⟩ := h
 exact ⟨xl, xh, h1, (one_grow h2).2, (one_grow h3).2⟩
abbrev aRes (R : Res) (c1 c2 : Bool) : AV := .agg [.vsl (R.log.map rI) c1, I R.ed, I R.val, .vsl (R.heap.map rFault) c2]
theorem own_frz {P : Program} {f : FuncId} {args : List AV} {H : AHeap} {R : Res} (h : ACalls P f args H fun r H' => OwnRes H H' r R) : ACalls P f args H fun r H' => (∃ c1 c2, r = aRes R c1 c2) ∧ H' = H := by
 refine acalls_fz h ?_
 rintro _ H' ⟨xl, xh, G1, rfl, h2, h3⟩
 have hle := AHeap.le_trans (grow_le h2) (grow_le h3)
 obtain ⟨c2, z2⟩ := grow_fz h3
 have hz1 : ∃ c1, Fz H' H xl (.vsl (R.log.map rI) c1) := by
  rcases h2 with ⟨e1, e2, e3⟩ | ⟨b, cl, hb, rfl, rfl⟩
  ·rw [e1, e2]; exact ⟨true, .same _⟩
  ·refine ⟨cl, ?_⟩
   have hk : H' b = some ⟨1, 3, R.log.map rI⟩ := grow_le h3 b _ (AHeap.set_self ..)
   have := Fz.sl (H := H') (K := H) (b := b) (sz := 1) (off := 0) (len := R.log.length) (cl := cl) hk rfl (by simp) hb
   simpa [List.take_of_length_le] using this
 have hz2 : ∃ c2, Fz H' H xh (.vsl (R.heap.map rFault) c2) := by
  rcases h3 with ⟨e1, e2, e3⟩ | ⟨b, cl, hb, rfl, rfl⟩
  ·rw [e1, e2]; exact ⟨true, .same _⟩
  ·refine ⟨cl, ?_⟩
   have hn : H b = none := by
    cases hq : H b with
    | none => rfl
    | some k => rw [grow_le h2 b k hq] at hb; cases hb
   have := Fz.sl (H := G1.set b ⟨5, 103, R.heap.map rFault⟩) (K := H) (b := b) (sz := 5) (off := 0) (len := R.heap.length) (cl := cl) (AHeap.set_self ..) rfl (by simp) hn
   simpa [List.take_of_length_le] using this
 obtain ⟨c1, z1⟩ := hz1
 obtain ⟨c2, z2⟩ := hz2
 exact ⟨_, H, hle, fz_agg (.cons z1 (.cons (.same _) (.cons (.same _) (.cons z2 .nil)))), ⟨c1, c2, rfl⟩, rfl⟩

def resM (s : Clo) : Res :=
 if 0 ≤ s.cur then ⟨s.log, 2, idxF (fun x => decide (s.cur = x)) (sortI (bfsF s.fs s.cur)), isoL s.fs (sortI (bfsF s.fs s.cur))⟩ else ⟨s.log, 0, 0, []⟩
theorem closeX_ok {t : List Class} {l : List Exi} {x : Sta} (hv : validX t l = true) (hs : startOk t x = true) : CloOk t (closeX t l x) l.length := by
 have key : ∀ k, k ≤ l.length → CloOk t ((l.reverse.take k).foldl (stepX t) (startX x)) k := by
  intro k
  induction k with
  | zero => intro _; exact CloOk.start hs
  | succ k ih =>
   intro hk
   rw [rev_take hk, List.foldl_append]
   exact (ih (by omega)).step (validX_at hv (by omega))
 have := key l.length (Nat.le_refl _)
 rw [List.take_of_length_le (by simp)] at this
 exact this
theorem c_mcloseExits (t : List Class) (cl : Bool) (l : List Exi) (cl' : Bool) (x : Sta) (H : AHeap) (hv : validX t l = true) (hs : startOk t x = true) :
  ACalls Tryz.prog 62 [aTree t cl, .vsl (l.map rExit) cl', .agg (rStart x)] H fun r H' => OwnRes H H' r (resM (closeX t l x)) := by
 have hok := closeX_ok hv hs
 have hl8 := (validX_T hv).2
 refine acalls_of1 Tryz.func62 rfl (by kernel_rfl) rfl rfl (awp_sound (fz := fun _ => []) (im := fun s => s == 3 || s == 5) mixed _ _ _ _ (by kernel_rfl) ?_)
 simp +contextual -dsimp -implicitDefEqProofs (maxSteps:=5000000) only [go_sem,reduceIte,reduceCtorEq,Nat.reduceEqDiff,Nat.reduceBEq,Nat.reduceAdd,Nat.reduceLeDiff,Nat.reduceMul,Nat.reduceLT,Int.reduceEq,Int.reduceLT,Int.reduceLE]
 intro b6 hb6
 refine (c_machineOf t cl _ [] true).mono ?_
 rintro _ H1 ⟨bm, rfl, hM⟩
 simp +contextual -dsimp -implicitDefEqProofs (maxSteps:=5000000) only [go_sem,reduceIte,reduceCtorEq,Nat.reduceEqDiff,Nat.reduceBEq,Nat.reduceAdd,Nat.reduceLeDiff,Nat.reduceMul,Nat.reduceLT,Int.reduceEq,Int.reduceLT,Int.reduceLE]
 refine (c_mclosed _ H1 bm t cl _ (-1) l cl' x hM hv hs).mono ?_
 rintro _ H2 ⟨rfl, hM2⟩
 generalize closeX t l x = s at hok hM2 ⊢
 have hcur := hok.cur
 have hlen := hok.len
 by_cases hc : s.cur < 0
 ·simp +contextual -dsimp -implicitDefEqProofs (maxSteps:=5000000) only [go_sem,reduceIte,reduceCtorEq,Nat.reduceEqDiff,Nat.reduceBEq,Nat.reduceAdd,Nat.reduceLeDiff,Nat.reduceMul,Nat.reduceLT,Int.reduceEq,Int.reduceLT,Int.reduceLE,hc]
  refine (c_mresult _ H2 bm _ _ s.log s.fs (-1) 0 0 hM2 hok.ho (by omega) (by simp)).mono ?_
  rintro r H3 hr
  have hr' : OwnRes (H.set b6 ⟨4, 34, [[.vsl [] true, I 0, I 0, .vsl [] true]]⟩) H3 r (resM s) := by
   obtain ⟨xl, xh, G1, h1, h2, h3⟩ := hr
   refine ⟨xl, xh, G1, ?_, ?_, ?_⟩
   ·rw [h1]; simp [resM, show ¬ 0 ≤ s.cur by omega]
   ·simpa [resM, show ¬ 0 ≤ s.cur by omega] using h2
   ·simpa [resM, show ¬ 0 ≤ s.cur by omega] using h3
  obtain ⟨H4, rfl, hown, hn⟩ := own_out hr' hb6
  obtain ⟨xl, xh, rfl, o1, o2⟩ := own_row hown
  simp +contextual -dsimp -implicitDefEqProofs (maxSteps:=5000000) only [go_sem,reduceIte,reduceCtorEq,Nat.reduceEqDiff,Nat.reduceBEq,Nat.reduceAdd,Nat.reduceLeDiff,Nat.reduceMul,Nat.reduceLT,Int.reduceEq,Int.reduceLT,Int.reduceLE,hc,o1,o2]
  refine retR_less (l := [.agg [xl, I (resM s).ed, I (resM s).val, xh]]) (H' := H4) ?_ (le_set hn) hown
  simp only [resA,go_sem,reduceIte,reduceCtorEq,Nat.reduceEqDiff,Nat.reduceBEq,Nat.reduceAdd,Nat.reduceLeDiff,Nat.reduceMul,Nat.reduceLT,Int.reduceEq,Int.reduceLT,Int.reduceLE]
 ·have h0 : 0 ≤ s.cur := by omega
  simp +contextual -dsimp -implicitDefEqProofs (maxSteps:=5000000) only [go_sem,reduceIte,reduceCtorEq,Nat.reduceEqDiff,Nat.reduceBEq,Nat.reduceAdd,Nat.reduceLeDiff,Nat.reduceMul,Nat.reduceLT,Int.reduceEq,Int.reduceLT,Int.reduceLE,hc]
  refine (c_mresult _ H2 bm _ _ s.log s.fs (-1) 2 s.cur hM2 hok.ho (by omega) (fun _ => ⟨h0, hcur⟩)).mono ?_
  rintro r H3 hr
  have hr' : OwnRes (H.set b6 ⟨4, 34, [[.vsl [] true, I 0, I 0, .vsl [] true]]⟩) H3 r (resM s) := by
   obtain ⟨xl, xh, G1, h1, h2, h3⟩ := hr
   refine ⟨xl, xh, G1, ?_, ?_, ?_⟩
   ·rw [h1]; simp [resM, h0]
   ·simpa [resM, h0] using h2
   ·simpa [resM, h0] using h3
  obtain ⟨H4, rfl, hown, hn⟩ := own_out hr' hb6
  obtain ⟨xl, xh, rfl, o1, o2⟩ := own_row hown
  simp +contextual -dsimp -implicitDefEqProofs (maxSteps:=5000000) only [go_sem,reduceIte,reduceCtorEq,Nat.reduceEqDiff,Nat.reduceBEq,Nat.reduceAdd,Nat.reduceLeDiff,Nat.reduceMul,Nat.reduceLT,Int.reduceEq,Int.reduceLT,Int.reduceLE,hc,o1,o2]
  refine retR_less (l := [.agg [xl, I (resM s).ed, I (resM s).val, xh]]) (H' := H4) ?_ (le_set hn) hown
  simp only [resA,go_sem,reduceIte,reduceCtorEq,Nat.reduceEqDiff,Nat.reduceBEq,Nat.reduceAdd,Nat.reduceLeDiff,Nat.reduceMul,Nat.reduceLT,Int.reduceEq,Int.reduceLT,Int.reduceLE]
end
section
open Go Go.Sim
set_option maxRecDepth 100000

theorem xor64 (x y : Nat) (hx : x < 4611686018427387904) (hy : y < 4611686018427387904) : ∃ z : Nat, bits .xor .i64 (x : Int) (y : Int) = z ∧ z < 4611686018427387904 := by
 refine ⟨x ^^^ y, ?_, Nat.xor_lt_two_pow (n := 62) hx hy⟩
 have hz : x ^^^ y < 4611686018427387904 := Nat.xor_lt_two_pow (n := 62) hx hy
 show IntKind.i64.wrap ((BitVec.ofInt 64 (x : Int) ^^^ BitVec.ofInt 64 (y : Int)).toNat : Int) = _
 have h1 : (BitVec.ofInt 64 (x : Int)).toNat = x := by rw [BitVec.ofInt_natCast, BitVec.toNat_ofNat]; exact Nat.mod_eq_of_lt (by omega)
 have h2 : (BitVec.ofInt 64 (y : Int)).toNat = y := by rw [BitVec.ofInt_natCast, BitVec.toNat_ofNat]; exact Nat.mod_eq_of_lt (by omega)
 rw [BitVec.toNat_xor, h1, h2, w64 (by omega) (by omega)]

def Rd (F H : AHeap) (br : Nat) (n : Nat) : Prop := ∃ (bs : List UInt8) (cb : Bool) (p : Nat), bs.length ≤ 2000 ∧ p ≤ n ∧ F br = none ∧ H = F.set br ⟨2, 127, [[.vsl (bs.map rU) cb, I p]]⟩
section
variable {F H : AHeap} {br n m c : Nat} {K : ABlk}
end
theorem pick_val (a b p l k : Int) (ha : 0 ≤ a) (ha' : a ≤ 255) (hb : 0 ≤ b) (hb' : b ≤ 255) (hp : 0 ≤ p) (hp' : p ≤ 1000000000) (hl : 0 < l) (hk : 0 < k) :
  ∃ z : Int, (bits .xor .i64 (a * 131 + b * 1117 + p * 29 + p.tdiv l * 53) ((a * 131 + b * 1117 + p * 29 + p.tdiv l * 53).tdiv 64)).tmod k = z ∧ 0 ≤ z ∧ z < k := by
 have hd : 0 ≤ p.tdiv l ∧ p.tdiv l ≤ p := ⟨Int.tdiv_nonneg hp (by omega), Int.tdiv_le_self _ hp⟩
 generalize p.tdiv l = q at hd
 have h0 : 0 ≤ a * 131 + b * 1117 + p * 29 + q * 53 ∧ a * 131 + b * 1117 + p * 29 + q * 53 ≤ 1000000000000 := by omega
 generalize a * 131 + b * 1117 + p * 29 + q * 53 = x at h0
 obtain ⟨y, rfl⟩ := Int.eq_ofNat_of_zero_le h0.1
 have hdiv : ((y : Int)).tdiv 64 = ((y / 64 : Nat) : Int) := rfl
 rw [hdiv]
 obtain ⟨z, hz, hz'⟩ := xor64 y (y / 64) (by omega) (by omega)
 rw [hz]
 exact ⟨_, rfl, Int.tmod_nonneg _ (by omega), Int.tmod_lt_of_pos _ hk⟩

theorem c_pick (F H : AHeap) (br n : Nat) (k : Int) (h : Rd F H br n) (hn : n < 1000000000) : ACalls Tryz.prog 91 [.ptr br 2 0 0, I k] H fun r H' => ∃ v : Int, r = I v ∧ 0 ≤ v ∧ (0 < k → v < k) ∧ (k ≤ 0 → v = 0) ∧ Rd F H' br (n + 1) := by
 obtain ⟨bs, cb, p, h1, h2, h3, rfl⟩ := h
 refine acalls_of0 Tryz.func91 rfl (by kernel_rfl) rfl rfl (awp_sound (fz := fun _ => []) (im := fun _ => false) mixed _ _ _ _ (by kernel_rfl) ?_)
 simp +contextual -dsimp -implicitDefEqProofs (maxSteps:=5000000) only [go_sem,reduceIte,reduceCtorEq,Nat.reduceEqDiff,Nat.reduceBEq,Nat.reduceAdd,Nat.reduceLeDiff,Nat.reduceMul,Nat.reduceLT,Int.reduceEq,Int.reduceLT,Int.reduceLE]
 have hw : IntKind.i64.wrap ((p : Int) + 1) = ((p + 1 : Nat) : Int) := by rw [w64 (by omega) (by omega)]; simp
 have hRd : ∀ v : Int, 0 ≤ v → (0 < k → v < k) → (k ≤ 0 → v = 0) → ∃ v' : Int, I v = I v' ∧ 0 ≤ v' ∧ (0 < k → v' < k) ∧ (k ≤ 0 → v' = 0) ∧ Rd F (F.set br ⟨2, 127, [[.vsl (bs.map rU) cb, I (IntKind.i64.wrap ((p : Int) + 1))]]⟩) br (n + 1) :=
  fun v q1 q2 q3 => ⟨v, rfl, q1, q2, q3, bs, cb, p + 1, h1, by omega, h3, by rw [hw]⟩
 have hw2 : IntKind.i64.wrap (IntKind.i64.wrap ((p : Int) + 1) - 1) = (p : Int) := by rw [hw, w64 (by omega) (by omega)]; simp
 simp only [hw2,Int.toNat_natCast]
 refine ⟨fun q => hRd 0 (by omega) (fun h => h) (fun _ => rfl), fun q => ⟨fun hlt => ?_, fun hge => ?_⟩⟩
 ·have hpl : p < bs.length := by omega
  have hb := (bs.getD p default).toNat_lt
  simp +contextual -dsimp -implicitDefEqProofs (maxSteps:=5000000) only [go_sem,reduceIte,reduceCtorEq,Nat.reduceEqDiff,Nat.reduceBEq,Nat.reduceAdd,Nat.reduceLeDiff,Nat.reduceMul,Nat.reduceLT,Int.reduceEq,Int.reduceLT,Int.reduceLE,hpl]
  refine ⟨by omega, ?_⟩
  rw [w64 (by omega) (by omega)]
  exact hRd _ (Int.tmod_nonneg _ (by omega)) (fun h => Int.tmod_lt_of_pos _ h) (fun h => by omega)
 ·refine draw_intro [0, 0, 0, 0, 0, 0, 0, 0, 0, 0, 0, 0, 0, 0, 0, 0, 0, 0, 0, 0, 0, 0, 0, 0, 0, 0, 0, 0, 0, 0, 0, 0, 0, 0, 0, 0, 0, 0, 0, 0, 0, 0, 0, 0, 0, 0] AHeap.none (by kernel_rfl) none_le ?_
  have hl0 : ¬ (bs.length : Int) = 0 := by omega
  have hlp : (0 : Int) < bs.length := by omega
  have e1 : IntKind.i64.wrap ((p : Int) * 7) = (p : Int) * 7 := w64 (by omega) (by omega)
  have e2 : IntKind.i64.wrap ((p : Int) * 7 + 3) = (p : Int) * 7 + 3 := w64 (by omega) (by omega)
  have j1 := Int.tmod_nonneg (bs.length : Int) (show 0 ≤ (p : Int) by omega)
  have j2 := Int.tmod_lt_of_pos (p : Int) hlp
  have j3 := Int.tmod_nonneg (bs.length : Int) (show 0 ≤ (p : Int) * 7 + 3 by omega)
  have j4 := Int.tmod_lt_of_pos ((p : Int) * 7 + 3) hlp
  have j5 : ((p : Int).tmod bs.length).toNat < bs.length := by omega
  have j6 : (((p : Int) * 7 + 3).tmod bs.length).toNat < bs.length := by omega
  simp +contextual -dsimp -implicitDefEqProofs (maxSteps:=5000000) only [go_sem,reduceIte,reduceCtorEq,Nat.reduceEqDiff,Nat.reduceBEq,Nat.reduceAdd,Nat.reduceLeDiff,Nat.reduceMul,Nat.reduceLT,Int.reduceEq,Int.reduceLT,Int.reduceLE,hw2,hl0,e1,e2,j1,j2,j3,j4,j5,j6]
  have ha := (bs.getD ((p : Int).tmod bs.length).toNat default).toNat_lt
  have hb := (bs.getD (((p : Int) * 7 + 3).tmod bs.length).toNat default).toNat_lt
  generalize (bs.getD ((p : Int).tmod bs.length).toNat default).toNat = a at ha
  generalize (bs.getD (((p : Int) * 7 + 3).tmod bs.length).toNat default).toNat = b at hb
  have hk : 0 < k := by omega
  obtain ⟨z, hz, z0, z1⟩ := pick_val a b p bs.length k (by omega) (by omega) (by omega) (by omega) (by omega) (by omega) hlp hk
  have hd : 0 ≤ (p : Int).tdiv bs.length ∧ (p : Int).tdiv bs.length ≤ p := ⟨Int.tdiv_nonneg (by omega) (by omega), Int.tdiv_le_self _ (by omega)⟩
  generalize (p : Int).tdiv bs.length = q2 at hd hz
  rw [w64 (a := (a : Int)) (by omega) (by omega), w64 (a := (b : Int)) (by omega) (by omega), w64 (a := (a : Int) * 131) (by omega) (by omega), w64 (a := (b : Int) * 1117) (by omega) (by omega),
   w64 (a := (a : Int) * 131 + (b : Int) * 1117) (by omega) (by omega), w64 (a := (p : Int) * 29) (by omega) (by omega), w64 (a := (a : Int) * 131 + (b : Int) * 1117 + (p : Int) * 29) (by omega) (by omega),
   w64 (a := q2) (by omega) (by omega), w64 (a := q2 * 53) (by omega) (by omega), w64 (a := (a : Int) * 131 + (b : Int) * 1117 + (p : Int) * 29 + q2 * 53) (by omega) (by omega)]
  have hd2 : 0 ≤ ((a : Int) * 131 + (b : Int) * 1117 + (p : Int) * 29 + q2 * 53).tdiv 64 ∧ ((a : Int) * 131 + (b : Int) * 1117 + (p : Int) * 29 + q2 * 53).tdiv 64 ≤ (a : Int) * 131 + (b : Int) * 1117 + (p : Int) * 29 + q2 * 53 := ⟨Int.tdiv_nonneg (by omega) (by omega), Int.tdiv_le_self _ (by omega)⟩
  rw [w64 (a := ((a : Int) * 131 + (b : Int) * 1117 + (p : Int) * 29 + q2 * 53).tdiv 64) (by omega) (by omega), hz]
  exact ⟨by omega, hRd z z0 (fun _ => z1) (fun h => by omega)⟩
theorem c_newReader (bs : List UInt8) (cb : Bool) (H : AHeap) : ACalls Tryz.prog 46 [.vsl (bs.map rU) cb] H fun r H' => ∃ br, r = .ptr br 2 0 0 ∧ Rd H H' br 0 := by
 refine acalls_of0 Tryz.func46 rfl (by kernel_rfl) rfl rfl (awp_sound (fz := fun _ => []) (im := fun _ => false) mixed _ _ _ _ (by kernel_rfl) ?_)
 simp +contextual -dsimp -implicitDefEqProofs (maxSteps:=5000000) only [go_sem,reduceIte,reduceCtorEq,Nat.reduceEqDiff,Nat.reduceBEq,Nat.reduceAdd,Nat.reduceLeDiff,Nat.reduceMul,Nat.reduceLT,Int.reduceEq,Int.reduceLT,Int.reduceLE]
 refine ⟨fun h => ⟨by omega, fun b hb => ⟨b, rfl, _, _, 0, ?_, Nat.le_refl _, hb, rfl⟩⟩, fun h b hb => ⟨b, rfl, _, _, 0, by omega, Nat.le_refl _, hb, rfl⟩⟩
 simp; omega
theorem c_one (F H : AHeap) (br n : Nat) (l : List Int) (cl : Bool) (h : Rd F H br n) (hn : n < 1000000000) (hl : l ≠ []) : ACalls Tryz.prog 92 [.ptr br 2 0 0, .vsl (l.map rI) cl] H fun r H' => ∃ v, r = I v ∧ v ∈ l ∧ Rd F H' br (n + 1) := by
 have hp : 0 < l.length := List.length_pos_iff.2 hl
 refine acalls_of0 Tryz.func92 rfl (by kernel_rfl) rfl rfl (awp_sound (fz := fun _ => []) (im := fun _ => false) mixed _ _ _ _ (by kernel_rfl) ?_)
 simp +contextual -dsimp -implicitDefEqProofs (maxSteps:=5000000) only [go_sem,reduceIte,reduceCtorEq,Nat.reduceEqDiff,Nat.reduceBEq,Nat.reduceAdd,Nat.reduceLeDiff,Nat.reduceMul,Nat.reduceLT,Int.reduceEq,Int.reduceLT,Int.reduceLE]
 refine (c_pick F H br n l.length h hn).mono ?_
 rintro _ H' ⟨v, rfl, v0, v1, v2, hR⟩
 have v3 := v1 (by omega)
 simp +contextual -dsimp -implicitDefEqProofs (maxSteps:=5000000) only [go_sem,reduceIte,reduceCtorEq,Nat.reduceEqDiff,Nat.reduceBEq,Nat.reduceAdd,Nat.reduceLeDiff,Nat.reduceMul,Nat.reduceLT,Int.reduceEq,Int.reduceLT,Int.reduceLE,v0,v3]
 have i1 : v.toNat < l.length := by omega
 refine ⟨i1, l.getD v.toNat default, rfl, ?_, hR⟩
 rw [List.getD_eq_getElem?_getD, List.getElem?_eq_getElem i1]; exact List.getElem_mem i1
theorem c_of (F H : AHeap) (br n : Nat) (l : List Str) (cl : Bool) (h : Rd F H br n) (hn : n < 1000000000) (hl : l ≠ []) : ACalls Tryz.prog 133 [.ptr br 2 0 0, .vsl (l.map rS) cl] H fun r H' => ∃ v, r = S v ∧ v ∈ l ∧ Rd F H' br (n + 1) := by
 have hp : 0 < l.length := List.length_pos_iff.2 hl
 refine acalls_of0 Tryz.func133 rfl (by kernel_rfl) rfl rfl (awp_sound (fz := fun _ => []) (im := fun _ => false) mixed _ _ _ _ (by kernel_rfl) ?_)
 simp +contextual -dsimp -implicitDefEqProofs (maxSteps:=5000000) only [go_sem,reduceIte,reduceCtorEq,Nat.reduceEqDiff,Nat.reduceBEq,Nat.reduceAdd,Nat.reduceLeDiff,Nat.reduceMul,Nat.reduceLT,Int.reduceEq,Int.reduceLT,Int.reduceLE]
 refine (c_pick F H br n l.length h hn).mono ?_
 rintro _ H' ⟨v, rfl, v0, v1, v2, hR⟩
 have v3 := v1 (by omega)
 simp +contextual -dsimp -implicitDefEqProofs (maxSteps:=5000000) only [go_sem,reduceIte,reduceCtorEq,Nat.reduceEqDiff,Nat.reduceBEq,Nat.reduceAdd,Nat.reduceLeDiff,Nat.reduceMul,Nat.reduceLT,Int.reduceEq,Int.reduceLT,Int.reduceLE,v0,v3]
 have i1 : v.toNat < l.length := by omega
 refine ⟨i1, l.getD v.toNat default, rfl, ?_, hR⟩
 rw [List.getD_eq_getElem?_getD, List.getElem?_eq_getElem i1]; exact List.getElem_mem i1
end
section
open Go Go.Sim
set_option maxRecDepth 100000

def RdK (n : Nat) (K : ABlk) : Prop := ∃ (bs : List UInt8) (cb : Bool) (p : Nat), bs.length ≤ 2000 ∧ p ≤ n ∧ K = ⟨2, 127, [[.vsl (bs.map rU) cb, I p]]⟩
theorem rdk_mono {n m : Nat} {K : ABlk} (h : RdK n K) (hm : n ≤ m) : RdK m K := by
 obtain ⟨bs, cb, p, h1, h2, h3⟩ := h
 exact ⟨bs, cb, p, h1, Nat.le_trans h2 hm, h3⟩
theorem rd_of {F : AHeap} {br n : Nat} {K : ABlk} (h : RdK n K) (hF : F br = none) : Rd F (F.set br K) br n := by
 obtain ⟨bs, cb, p, h1, h2, rfl⟩ := h
 exact ⟨bs, cb, p, h1, h2, hF, rfl⟩
theorem rd_to {F H : AHeap} {br n : Nat} (h : Rd F H br n) : ∃ K, RdK n K ∧ H = F.set br K := by
 obtain ⟨bs, cb, p, h1, h2, h3, rfl⟩ := h
 exact ⟨_, ⟨bs, cb, p, h1, h2, rfl⟩, rfl⟩
theorem k_pick {F : AHeap} {br n : Nat} {K : ABlk} (k : Int) (h : RdK n K) (hF : F br = none) (hn : n < 1000000000) {H : AHeap} (hH : H = F.set br K) {Q : AV → AHeap → Prop}
  (k0 : ∀ (v : Int) K', 0 ≤ v → (0 < k → v < k) → (k ≤ 0 → v = 0) → RdK (n + 1) K' → Q (I v) (F.set br K')) : ACalls Tryz.prog 91 [.ptr br 2 0 0, I k] H Q := by
 subst hH
 refine (c_pick F _ br n k (rd_of h hF) hn).mono ?_
 rintro _ H' ⟨v, rfl, v0, v1, v2, hR⟩
 obtain ⟨K', hK, rfl⟩ := rd_to hR
 exact k0 v K' v0 v1 v2 hK
theorem k_one {F : AHeap} {br n : Nat} {K : ABlk} (l : List Int) (cl : Bool) (h : RdK n K) (hF : F br = none) (hn : n < 1000000000) (hl : l ≠ []) {H : AHeap} (hH : H = F.set br K) {Q : AV → AHeap → Prop} {es : List (List AV)} (hes : es = l.map rI)
  (k0 : ∀ (v : Int) K', v ∈ l → RdK (n + 1) K' → Q (I v) (F.set br K')) : ACalls Tryz.prog 92 [.ptr br 2 0 0, .vsl es cl] H Q := by
 subst hH hes
 refine (c_one F _ br n l cl (rd_of h hF) hn hl).mono ?_
 rintro _ H' ⟨v, rfl, v0, hR⟩
 obtain ⟨K', hK, rfl⟩ := rd_to hR
 exact k0 v K' v0 hK
theorem k_of {F : AHeap} {br n : Nat} {K : ABlk} (l : List Str) (cl : Bool) (h : RdK n K) (hF : F br = none) (hn : n < 1000000000) (hl : l ≠ []) {H : AHeap} (hH : H = F.set br K) {Q : AV → AHeap → Prop} {es : List (List AV)} (hes : es = l.map rS)
  (k0 : ∀ (v : Str) K', v ∈ l → RdK (n + 1) K' → Q (S v) (F.set br K')) : ACalls Tryz.prog 133 [.ptr br 2 0 0, .vsl es cl] H Q := by
 subst hH hes
 refine (c_of F _ br n l cl (rd_of h hF) hn hl).mono ?_
 rintro _ H' ⟨v, rfl, v0, hR⟩
 obtain ⟨K', hK, rfl⟩ := rd_to hR
 exact k0 v K' v0 hK

def treeNames : List Str := [[97, 110, 121], [105, 111], [107, 101, 121], [116, 105, 109, 101], [110, 101, 116], [100, 105, 115, 107], [116, 121, 112, 101], [111, 100, 100]]
theorem treeNames_len : treeNames.length = 8 := rfl
def shortNames (l : List Class) : Prop := ∀ c ∈ l, c.name.length ≤ 10
theorem short_ok {l : List Class} (h : shortNames l) : namesOk l := fun c hc => by have := h c hc; omega
theorem c_goodTree (F : AHeap) (br n : Nat) (K : ABlk) (h : RdK n K) (hF : F br = none) (hn : n < 900000000) : ACalls Tryz.prog 132 [.ptr br 2 0 0] (F.set br K) fun r H' =>
  ∃ x l G K', r = .agg [x] ∧ Grow rClass 2 144 F G x l ∧ G br = none ∧ H' = G.set br K' ∧ RdK (n + 20) K' ∧ 1 ≤ l.length ∧ l.length ≤ 8 ∧ shortNames l := by
 refine acalls_of1 Tryz.func132 rfl (by kernel_rfl) rfl rfl (awp_sound (fz := fun _ => []) (im := fun s => s == 7 || s == 12) mixed _ _ _ _ (by kernel_rfl) ?_)
 simp +contextual -dsimp -implicitDefEqProofs (maxSteps:=5000000) only [go_sem,reduceIte,reduceCtorEq,Nat.reduceEqDiff,Nat.reduceBEq,Nat.reduceAdd,Nat.reduceLeDiff,Nat.reduceMul,Nat.reduceLT,Int.reduceEq,Int.reduceLT,Int.reduceLE]
 rintro b2 ⟨p1, p2, hb2⟩ b9 ⟨q1, q2, q3, q4, hb9⟩ b4 ⟨m1, m2, m3, m4, m5, m6, hb4⟩
 have hg0 : Grow rClass 2 144 F (F.set b9 ⟨2, 144, [⟨[97, 110, 121], -1⟩].map rClass⟩) (.sl b9 2 0 1 true) [⟨[97, 110, 121], -1⟩] := .inr ⟨b9, true, hb9, rfl, rfl⟩
 have hH : (((F.set br K).set b2 ⟨1, 25, [[.vsl [] true]]⟩).set b9 ⟨2, 144, [[S [97, 110, 121], I (-1)]]⟩).set b4 ⟨1, 25, [[.sl b9 2 0 1 true]]⟩ =
   (((F.set b9 ⟨2, 144, [⟨[97, 110, 121], -1⟩].map rClass⟩).set b2 ⟨1, 25, [[.vsl [] true]]⟩).set b4 ⟨1, 25, [[.sl b9 2 0 1 true]]⟩).set br K := by
  rw [set_comm (H := F) (Ne.symm p1), set_comm (H := F.set b2 _) (Ne.symm q3), set_comm (H := (F.set b2 _).set b9 _) (Ne.symm m5), set_comm (H := F) (Ne.symm q1)]
  rfl
 rw [hH]
 have e2 : (F.set b9 ⟨2, 144, [⟨[97, 110, 121], -1⟩].map rClass⟩) b2 = none := by rw [set_other q2]; exact hb2
 have e4 : (F.set b9 ⟨2, 144, [⟨[97, 110, 121], -1⟩].map rClass⟩) b4 = none := by rw [set_other m1]; exact hb4
 have er : (F.set b9 ⟨2, 144, [⟨[97, 110, 121], -1⟩].map rClass⟩) br = none := by rw [set_other q4]; exact hF
 generalize F.set b9 ⟨2, 144, [⟨[97, 110, 121], -1⟩].map rClass⟩ = G0 at hg0 e2 e4 er ⊢
 generalize AV.sl b9 2 0 1 true = x0 at hg0 ⊢
 have none3 : ∀ (G : AHeap) (K2 K4 : ABlk), G br = none → ((G.set b2 K2).set b4 K4) br = none := fun G K2 K4 h => by rw [set_other m6, set_other p2]; exact h
 refine k_one [4, 5, 3, 6, 2, 1, 8] _ h (none3 _ _ _ er) (by omega) (by simp) rfl rfl fun v K1 hv hK1 => ?_
 have hv8 : 1 ≤ v ∧ v ≤ 8 := by simp at hv; omega
 clear hH
 simp +contextual -dsimp -implicitDefEqProofs (maxSteps:=5000000) only [go_sem,reduceIte,reduceCtorEq,Nat.reduceEqDiff,Nat.reduceBEq,Nat.reduceAdd,Nat.reduceLeDiff,Nat.reduceMul,Nat.reduceLT,Int.reduceEq,Int.reduceLT,Int.reduceLE]
 refine aloop mixed (fz := fun _ => []) (im := fun s => s == 7 || s == 12) (by kernel_rfl) (fun m tm H' => ∃ (i : Nat) (G : AHeap) (x : AV) (l : List Class) (K : ABlk), m = v.toNat - i ∧ 1 ≤ i ∧ i ≤ v ∧ l.length = i ∧ shortNames l ∧ Grow rClass 2 144 F G x l ∧ G b2 = none ∧ G b4 = none ∧ G br = none ∧ RdK (n + 2 + 2 * i) K ∧
  H' = ((G.set b2 ⟨1, 25, [[.vsl [] true]]⟩).set b4 ⟨1, 25, [[x]]⟩).set br K ∧ tm 0 = .ptr br 2 0 0 ∧ tm 2 = .ptr b2 1 0 0 ∧ tm 3 = .vsl (treeNames.map rS) true ∧ tm 4 = .ptr b4 1 0 0 ∧ tm 5 = I v ∧ tm 6 = I i) (v.toNat - 1) ⟨1, G0, x0, _, K1, rfl, by omega, by omega, rfl, ?_, hg0, e2, e4, er, rdk_mono hK1 (by omega), rfl, ?_⟩ ?_
 ·intro c hc; simp at hc; subst hc; decide
 ·simp +contextual -dsimp -implicitDefEqProofs (maxSteps:=5000000) only [go_sem,reduceIte,reduceCtorEq,Nat.reduceEqDiff,Nat.reduceBEq,Nat.reduceAdd,Nat.reduceLeDiff,Nat.reduceMul,Nat.reduceLT,Int.reduceEq,Int.reduceLT,Int.reduceLE]
  exact ⟨rfl, rfl⟩
 ·rintro m tm H' ⟨i, G, x, l, K, rfl, hi1, hi, hl, hs, hg, f2, f4, fr, hK, rfl, t0, t2, t3, t4, t5, t6⟩
  obtain ⟨r1, r2⟩ := one_grow hg
  simp +contextual -dsimp -implicitDefEqProofs (maxSteps:=5000000) only [go_sem,reduceIte,reduceCtorEq,Nat.reduceEqDiff,Nat.reduceBEq,Nat.reduceAdd,Nat.reduceLeDiff,Nat.reduceMul,Nat.reduceLT,Int.reduceEq,Int.reduceLT,Int.reduceLE,t0,t2,t3,t4,t5,t6,p1,p2,m3,m4,m5,m6,r1,r2]
  refine ⟨fun hlt => ?_, fun hge => ?_⟩
  ·refine draw_intro [0, 1, 0, 0, 0, 1, 0, 0, 0, 3, 0, 0, 0, 3, 0, 0, 2, 0, 2] ((G.set b2 ⟨1, 25, [[.vsl [] true]]⟩).set b4 ⟨1, 25, [[x]]⟩) (by kernel_rfl) (le_set (none3 _ _ _ fr)) ?_
   have i8 : i < 8 := by omega
   have hnm : (treeNames.getD i default).length ≤ 10 := by
    have : ∀ j, j < 8 → (treeNames.getD j default).length ≤ 10 := by decide
    exact this i i8
   simp +contextual -dsimp -implicitDefEqProofs (maxSteps:=5000000) only [go_sem,reduceIte,reduceCtorEq,Nat.reduceEqDiff,Nat.reduceBEq,Nat.reduceAdd,Nat.reduceLeDiff,Nat.reduceMul,Nat.reduceLT,Int.reduceEq,Int.reduceLT,Int.reduceLE,t0,t2,t3,t4,t5,t6,p1,p2,m3,m4,m5,m6,r1,r2,treeNames_len,i8]
   refine k_pick i hK (none3 _ _ _ fr) (by omega) rfl fun u K2 u0 u1 u2 hK2 => ⟨le_set (none3 _ _ _ fr), ?_⟩
   simp +contextual -dsimp -implicitDefEqProofs (maxSteps:=5000000) only [go_sem,reduceIte,reduceCtorEq,Nat.reduceEqDiff,Nat.reduceBEq,Nat.reduceAdd,Nat.reduceLeDiff,Nat.reduceMul,Nat.reduceLT,Int.reduceEq,Int.reduceLT,Int.reduceLE,t0,t2,t3,t4,t5,t6,p1,p2,m3,m4,m5,m6,r1,r2,treeNames_len,i8]
   refine k_one [0, u, IntKind.i64.wrap ((i : Int) - 1)] _ hK2 (none3 _ _ _ fr) (by omega) (by simp) rfl rfl fun z K3 hz hK3 => ⟨le_set (none3 _ _ _ fr), ?_⟩
   simp +contextual -dsimp -implicitDefEqProofs (maxSteps:=5000000) only [go_sem,reduceIte,reduceCtorEq,Nat.reduceEqDiff,Nat.reduceBEq,Nat.reduceAdd,Nat.reduceLeDiff,Nat.reduceMul,Nat.reduceLT,Int.reduceEq,Int.reduceLT,Int.reduceLE,t0,t2,t3,t4,t5,t6,p1,p2,m3,m4,m5,m6,r1,r2,treeNames_len,i8]
   have f4' : (G.set b2 ⟨1, 25, [[.vsl [] true]]⟩) b4 = none := by rw [set_other m3]; exact f4
   refine grow_append (m := [⟨treeNames.getD i default, z⟩]) te23 ti144 rClass_len (by decide) (grow_in (grow_in (grow_in hg f2) f4') (none3 _ _ _ fr)) (by simp; omega) (by simp; omega) rfl fun x' H' hg' => ?_
   have g2 := grow_none hg f2
   have g4 := grow_none hg f4
   have gr := grow_none hg fr
   obtain ⟨G1, hg1, rfl, u7⟩ := grow_out hg' (none3 _ _ _ gr)
   obtain ⟨G2, hg2, rfl, u6⟩ := grow_out hg1 (by rw [set_other m3]; exact g4)
   obtain ⟨G3, hg3, rfl, u5⟩ := grow_out hg2 g2
   obtain ⟨r3, r4⟩ := one_grow hg3
   rw [set_other m3] at u6
   rw [set_other m6, set_other p2] at u7
   simp +contextual -dsimp -implicitDefEqProofs (maxSteps:=5000000) only [go_sem,reduceIte,reduceCtorEq,Nat.reduceEqDiff,Nat.reduceBEq,Nat.reduceAdd,Nat.reduceLeDiff,Nat.reduceMul,Nat.reduceLT,Int.reduceEq,Int.reduceLT,Int.reduceLE,t0,t2,t3,t4,t5,t6,p1,p2,m3,m4,m5,m6,r1,r2,r3,r4,treeNames_len,i8]
   refine ⟨_, ?_, i + 1, G3, x', l ++ [⟨treeNames.getD i default, z⟩], K3, rfl, by omega, by omega, by simp [hl], ?_, hg3, u5, u6, u7, rdk_mono hK3 (by omega), rfl, I_wrap (by simp) (by omega) (by omega)⟩
   ·omega
   ·intro c hc
    rcases List.mem_append.1 hc with q | q
    ·exact hs c q
    ·simp at q; subst q; exact hnm
  ·refine retR_less (l := [.agg [x]]) (H' := G.set br K) ?_ (fun c k hc => ?_) ⟨x, l, G, K, rfl, hg, fr, rfl, rdk_mono hK (by omega), by omega, by omega, hs⟩
   ·simp only [resA,go_sem,reduceIte,reduceCtorEq,Nat.reduceEqDiff,Nat.reduceBEq,Nat.reduceAdd,Nat.reduceLeDiff,Nat.reduceMul,Nat.reduceLT,Int.reduceEq,Int.reduceLT,Int.reduceLE,p1,p2,m3,m4,m5,m6,t2]
   ·by_cases c0 : c = br
    ·subst c0; rw [AHeap.set_self] at hc ⊢; exact hc
    ·rw [set_other c0] at hc
     have c1 : c ≠ b2 := fun e => by rw [e, f2] at hc; cases hc
     have c2 : c ≠ b4 := fun e => by rw [e, f4] at hc; cases hc
     rw [set_other c0, set_other c2, set_other c1]; exact hc
end
section
open Go Go.Sim
set_option maxRecDepth 100000

theorem br_out {F : AHeap} {br b : Nat} {K K2 : ABlk} (h : b ≠ br) : (F.set br K).set b K2 = (F.set b K2).set br K := set_comm (Ne.symm h)
theorem le_ch {F G : AHeap} {br : Nat} {K : ABlk} (h : AHeap.le F G) : AHeap.le (F.set br K) (G.set br K) := by
 intro c k hc
 by_cases c0 : c = br
 ·subst c0; rw [AHeap.set_self] at hc ⊢; exact hc
 ·rw [set_other c0] at hc ⊢; exact h c k hc
theorem le_s1 {F G : AHeap} {b : Nat} {A : ABlk} (h : AHeap.le F G) (hb : F b = none) : AHeap.le F (G.set b A) := by
 intro c k hc
 have c1 : c ≠ b := fun e => by rw [e, hb] at hc; cases hc
 rw [set_other c1]; exact h c k hc
theorem c_someTree (F : AHeap) (br n : Nat) (K : ABlk) (h : RdK n K) (hF : F br = none) (hn : n < 800000000) : ACalls Tryz.prog 89 [.ptr br 2 0 0] (F.set br K) fun r H' =>
  ∃ x l G K', r = .agg [x] ∧ Grow rClass 2 144 F G x l ∧ G br = none ∧ H' = G.set br K' ∧ RdK (n + 25) K' ∧ l.length ≤ 8 ∧ shortNames l := by
 refine acalls_of1 Tryz.func89 rfl (by kernel_rfl) rfl rfl (awp_sound (fz := fun _ => []) (im := fun _ => false) mixed _ _ _ _ (by kernel_rfl) ?_)
 simp +contextual -dsimp -implicitDefEqProofs (maxSteps:=5000000) only [go_sem,reduceIte,reduceCtorEq,Nat.reduceEqDiff,Nat.reduceBEq,Nat.reduceAdd,Nat.reduceLeDiff,Nat.reduceMul,Nat.reduceLT,Int.reduceEq,Int.reduceLT,Int.reduceLE]
 rintro b2 ⟨p1, p2, hb2⟩
 have n2 : ∀ K4, (F.set b2 K4) br = none := fun K4 => by rw [set_other p2]; exact hF
 rw [br_out p1]
 refine (c_goodTree _ br n K h (n2 _) (by omega)).mono ?_
 rintro _ _ ⟨x, l, G0, K1, rfl, hg0, hr0, rfl, hK1, hl1, hl8, hs⟩
 obtain ⟨G, hg, rfl, e2⟩ := grow_out hg0 hb2
 rw [set_other p2] at hr0
 rcases hg with ⟨e, _, _⟩ | ⟨bx, clx, hbx, rfl, rfl⟩
 ·rw [e] at hl1; simp at hl1
 simp +contextual -dsimp -implicitDefEqProofs (maxSteps:=5000000) only [go_sem,reduceIte,reduceCtorEq,Nat.reduceEqDiff,Nat.reduceBEq,Nat.reduceAdd,Nat.reduceLeDiff,Nat.reduceMul,Nat.reduceLT,Int.reduceEq,Int.reduceLT,Int.reduceLE]
 intro b3 hb3c
 obtain ⟨q1, q2, q3, q4, w1, w2, hb3f⟩ := hb3c
 have hb3 : (F.set bx ⟨2, 144, l.map rClass⟩) b3 = none := by rw [set_other w1]; exact hb3f
 rw [br_out q1]
 have n3 : ∀ (G : AHeap) (K2 K4 : ABlk), G br = none → ((G.set b2 K2).set b3 K4) br = none := fun G K2 K4 h => by rw [set_other q2, set_other p2]; exact h
 have hb3' := hb3
 have e2' := e2
 have hr' := hr0
 rw [set_none] at hb3' e2' hr'
 have w1 := hb3'.1
 have w2 := hb3'.2.1
 have w3 := e2'.1
 have w4 := e2'.2.1
 have w5 := hr'.1
 have w6 := hr'.2.1
 have fin : ∀ (l' : List Class) (K2 K3 : ABlk) (tm : Tm), l'.length = l.length → shortNames l' → RdK (n + 25) K3 → tm 2 = .ptr b2 1 0 0 → retR Tryz.prog [.cell 2 25] (fun r H' => ∃ x l G K', r = .agg [x] ∧ Grow rClass 2 144 F G x l ∧ G br = none ∧ H' = G.set br K' ∧ RdK (n + 25) K' ∧ l.length ≤ 8 ∧ shortNames l) tm
   ((((F.set bx ⟨2, 144, l'.map rClass⟩).set b2 ⟨1, 25, [[.sl bx 2 0 l.length clx]]⟩).set b3 K2).set br K3) := by
  intro l' K2 K3 tm hl' hs' hK h2
  have f2 : (F.set bx ⟨2, 144, l'.map rClass⟩) b2 = none := by rw [set_other w3]; exact hb2
  have f3 : (F.set bx ⟨2, 144, l'.map rClass⟩) b3 = none := by rw [set_other w1]; exact hb3'.2.2
  refine retR_less (l := [.agg [.sl bx 2 0 l.length clx]]) (H' := (F.set bx ⟨2, 144, l'.map rClass⟩).set br K3) ?_ (le_ch (le_s1 (le_s1 (AHeap.le_refl _) f2) f3)) ⟨_, l', _, K3, rfl, .inr ⟨bx, clx, hbx, by rw [hl'], rfl⟩, by rw [set_other w5]; exact hF, rfl, hK, by omega, hs'⟩
  simp only [resA,go_sem,reduceIte,reduceCtorEq,Nat.reduceEqDiff,Nat.reduceBEq,Nat.reduceAdd,Nat.reduceLeDiff,Nat.reduceMul,Nat.reduceLT,Int.reduceEq,Int.reduceLT,Int.reduceLE,p1,p2,q1,q2,q3,q4,h2]
 refine k_pick l.length hK1 (n3 _ _ _ hr0) (by omega) rfl fun v K2 v0 v1 v2 hK2 => ?_
 have vl := v1 (by omega)
 have vn : v.toNat < l.length := by omega
 simp +contextual -dsimp -implicitDefEqProofs (maxSteps:=5000000) only [go_sem,reduceIte,reduceCtorEq,Nat.reduceEqDiff,Nat.reduceBEq,Nat.reduceAdd,Nat.reduceLeDiff,Nat.reduceMul,Nat.reduceLT,Int.reduceEq,Int.reduceLT,Int.reduceLE,p1,p2,q1,q2,q3,q4,w1,w2,w3,w4,w5,w6]
 refine k_pick 24 hK2 (n3 _ _ _ hr0) (by omega) rfl fun z K3 z0 z1 z2 hK3 => ?_
 by_cases c0 : z = 0
 ·simp +contextual -dsimp -implicitDefEqProofs (maxSteps:=5000000) only [go_sem,reduceIte,reduceCtorEq,Nat.reduceEqDiff,Nat.reduceBEq,Nat.reduceAdd,Nat.reduceLeDiff,Nat.reduceMul,Nat.reduceLT,Int.reduceEq,Int.reduceLT,Int.reduceLE,c0,p1,p2,q1,q2,q3,q4,w1,w2,w3,w4,w5,w6]
  refine draw_intro [0, 1, 0, 0, 0, 3, 0, 0, 2] _ (by kernel_rfl) (le_set (n3 _ _ _ hr0)) ?_
  simp +contextual -dsimp -implicitDefEqProofs (maxSteps:=5000000) only [go_sem,reduceIte,reduceCtorEq,Nat.reduceEqDiff,Nat.reduceBEq,Nat.reduceAdd,Nat.reduceLeDiff,Nat.reduceMul,Nat.reduceLT,Int.reduceEq,Int.reduceLT,Int.reduceLE,c0,p1,p2,q1,q2,q3,q4,w1,w2,w3,w4,w5,w6]
  refine k_of [[], [97, 110, 121], [65], [116, 111, 111, 108, 111, 110, 103]] _ hK3 (n3 _ _ _ hr0) (by omega) (by simp) rfl rfl fun s K4 hsm hK4 => ⟨le_set (n3 _ _ _ hr0), ?_⟩
  have hsl : s.length ≤ 10 := by simp at hsm; rcases hsm with rfl | rfl | rfl | rfl <;> decide
  simp +contextual -dsimp -implicitDefEqProofs (maxSteps:=5000000) only [go_sem,reduceIte,reduceCtorEq,Nat.reduceEqDiff,Nat.reduceBEq,Nat.reduceAdd,Nat.reduceLeDiff,Nat.reduceMul,Nat.reduceLT,Int.reduceEq,Int.reduceLT,Int.reduceLE,c0,p1,p2,q1,q2,q3,q4,w1,w2,w3,w4,w5,w6,v0,vl,vn]
  rw [wrO_y (y := { l.getD v.toNat default with name := s }) vn rfl]
  simp +contextual -dsimp -implicitDefEqProofs (maxSteps:=5000000) only [go_sem,reduceIte,reduceCtorEq,Nat.reduceEqDiff,Nat.reduceBEq,Nat.reduceAdd,Nat.reduceLeDiff,Nat.reduceMul,Nat.reduceLT,Int.reduceEq,Int.reduceLT,Int.reduceLE,c0,p1,p2,q1,q2,q3,q4,w1,w2,w3,w4,w5,w6,v0,vl,vn]
  refine fin (l.set v.toNat { l.getD v.toNat default with name := s }) _ K4 _ (by simp) (fun c hc => ?_) (rdk_mono hK4 (by omega)) ?_
  ·rcases List.mem_or_eq_of_mem_set hc with q | rfl
   ·exact hs c q
   ·exact hsl
  ·rfl
 ·by_cases c1 : z = 1
  ·simp +contextual -dsimp -implicitDefEqProofs (maxSteps:=5000000) only [go_sem,reduceIte,reduceCtorEq,Nat.reduceEqDiff,Nat.reduceBEq,Nat.reduceAdd,Nat.reduceLeDiff,Nat.reduceMul,Nat.reduceLT,Int.reduceEq,Int.reduceLT,Int.reduceLE,c0,c1,p1,p2,q1,q2,q3,q4,w1,w2,w3,w4,w5,w6]
   refine draw_intro [0, 1, 0, 0, 0, 0, 3, 0, 0, 2] _ (by kernel_rfl) (le_set (n3 _ _ _ hr0)) ?_
   simp +contextual -dsimp -implicitDefEqProofs (maxSteps:=5000000) only [go_sem,reduceIte,reduceCtorEq,Nat.reduceEqDiff,Nat.reduceBEq,Nat.reduceAdd,Nat.reduceLeDiff,Nat.reduceMul,Nat.reduceLT,Int.reduceEq,Int.reduceLT,Int.reduceLE,c0,p1,p2,q1,q2,q3,q4,w1,w2,w3,w4,w5,w6]
   refine k_one [v, -1, 8, -2] _ hK3 (n3 _ _ _ hr0) (by omega) (by simp) rfl rfl fun s K4 hsm hK4 => ⟨le_set (n3 _ _ _ hr0), ?_⟩
   simp +contextual -dsimp -implicitDefEqProofs (maxSteps:=5000000) only [go_sem,reduceIte,reduceCtorEq,Nat.reduceEqDiff,Nat.reduceBEq,Nat.reduceAdd,Nat.reduceLeDiff,Nat.reduceMul,Nat.reduceLT,Int.reduceEq,Int.reduceLT,Int.reduceLE,c0,p1,p2,q1,q2,q3,q4,w1,w2,w3,w4,w5,w6,v0,vl,vn]
   rw [wrO_y (y := { l.getD v.toNat default with parent := s }) vn rfl]
   simp +contextual -dsimp -implicitDefEqProofs (maxSteps:=5000000) only [go_sem,reduceIte,reduceCtorEq,Nat.reduceEqDiff,Nat.reduceBEq,Nat.reduceAdd,Nat.reduceLeDiff,Nat.reduceMul,Nat.reduceLT,Int.reduceEq,Int.reduceLT,Int.reduceLE,c0,p1,p2,q1,q2,q3,q4,w1,w2,w3,w4,w5,w6,v0,vl,vn]
   refine fin (l.set v.toNat { l.getD v.toNat default with parent := s }) _ K4 _ (by simp) (fun c hc => ?_) (rdk_mono hK4 (by omega)) ?_
   ·rcases List.mem_or_eq_of_mem_set hc with q | rfl
    ·exact hs c q
    ·exact hs (l.getD v.toNat default) (by rw [List.getD_eq_getElem?_getD, List.getElem?_eq_getElem vn]; exact List.getElem_mem vn)
   ·rfl
  ·by_cases c2 : z = 2
   ·simp +contextual -dsimp -implicitDefEqProofs (maxSteps:=5000000) only [go_sem,reduceIte,reduceCtorEq,Nat.reduceEqDiff,Nat.reduceBEq,Nat.reduceAdd,Nat.reduceLeDiff,Nat.reduceMul,Nat.reduceLT,Int.reduceEq,Int.reduceLT,Int.reduceLE,c0,c1,c2,p1,p2,q1,q2,q3,q4,w1,w2,w3,w4,w5,w6]
    refine retR_less (l := [.agg [.vsl [] true]]) (H' := F.set br K3) ?_ (le_ch (le_s1 (le_s1 (le_s1 (AHeap.le_refl _) hbx) hb2) hb3f)) ⟨_, [], F, K3, rfl, grow_nil, hF, rfl, rdk_mono hK3 (by omega), by simp, fun c hc => by cases hc⟩
    simp only [resA,go_sem,reduceIte,reduceCtorEq,Nat.reduceEqDiff,Nat.reduceBEq,Nat.reduceAdd,Nat.reduceLeDiff,Nat.reduceMul,Nat.reduceLT,Int.reduceEq,Int.reduceLT,Int.reduceLE,p1,p2,q1,q2,q3,q4,w1,w2,w3,w4,w5,w6]
   ·simp +contextual -dsimp -implicitDefEqProofs (maxSteps:=5000000) only [go_sem,reduceIte,reduceCtorEq,Nat.reduceEqDiff,Nat.reduceBEq,Nat.reduceAdd,Nat.reduceLeDiff,Nat.reduceMul,Nat.reduceLT,Int.reduceEq,Int.reduceLT,Int.reduceLE,c0,c1,c2,p1,p2,q1,q2,q3,q4,w1,w2,w3,w4,w5,w6]
    refine fin l _ K3 _ rfl hs (rdk_mono hK3 (by omega)) ?_
    rfl
end
section
open Go Go.Sim
set_option maxRecDepth 100000

theorem c_someTreeF (F : AHeap) (br n : Nat) (K : ABlk) (h : RdK n K) (hF : F br = none) (hn : n < 800000000) : ACalls Tryz.prog 89 [.ptr br 2 0 0] (F.set br K) fun r H' =>
  ∃ l cl K', r = aTree l cl ∧ H' = F.set br K' ∧ RdK (n + 25) K' ∧ l.length ≤ 8 ∧ shortNames l := by
 refine acalls_fz (c_someTree F br n K h hF hn) ?_
 rintro _ _ ⟨x, l, G, K', rfl, hg, hr, rfl, hK, hl, hs⟩
 have hg' := grow_in (K := K') hg hr
 obtain ⟨cl, hz⟩ := grow_fz hg'
 exact ⟨_, F.set br K', grow_le hg', fz_agg (.cons hz .nil), l, cl, K', rfl, rfl, hK, hl, hs⟩
end
section
open Go Go.Sim
set_option maxRecDepth 100000

theorem bfsG_dch {h : List Fault} (ho : heapOk h) : ∀ (n : Nat) (pre : List Int) (f : Int), 0 ≤ f → f < h.length → f < n → (∀ a ∈ pre, f < a) → bfsG h n pre.length (pre ++ [f]) = pre ++ dchF h f
 | 0, pre, f, h0, h1, h2, _ => by omega
 | n + 1, pre, f, h0, h1, h2, h3 => by
  obtain ⟨o1, o2, o3⟩ := ho f.toNat (by omega)
  have e : (pre ++ [f]).getD pre.length default = f := by simp [List.getD_eq_getElem?_getD]
  have e1 : causeOf h f = -1 := o1
  have e2 : -1 ≤ ctxOf h f := o2
  have e3 : ctxOf h f < f := by have : ctxOf h f < f.toNat := o3; omega
  simp only [bfsG]
  rw [if_pos (by simp), e, e1, dchF_step ho h0 h1]
  have a1 : addF (pre ++ [f]) (-1) = pre ++ [f] := by unfold addF; rw [if_neg (by omega)]
  rw [a1]
  by_cases hg : ctxOf h f < 0
  ·have a2 : addF (pre ++ [f]) (ctxOf h f) = pre ++ [f] := by unfold addF; rw [if_neg (by omega)]
   rw [a2, dchF_neg hg]
   cases n with
   | zero => rfl
   | succ n => simp only [bfsG]; rw [if_neg (by simp)]
  ·have a2 : addF (pre ++ [f]) (ctxOf h f) = (pre ++ [f]) ++ [ctxOf h f] := by
    have hany : ((pre ++ [f]).any fun x => decide (ctxOf h f = x)) = false := by
     rw [List.any_eq_false]
     intro a ha
     rcases List.mem_append.1 ha with q | q
     ·have := h3 a q
      have : ¬ ctxOf h f = a := by omega
      simp [this]
     ·simp at q
      have : ¬ ctxOf h f = a := by omega
      simp [this]
    unfold addF
    rw [if_pos ⟨by omega, hany⟩]
   rw [a2]
   have := bfsG_dch ho n (pre ++ [f]) (ctxOf h f) (by omega) (by omega) (by omega) (fun a ha => by
    rcases List.mem_append.1 ha with q | q
    ·have := h3 a q; omega
    ·simp at q; subst q; exact e3)
   rw [List.length_append] at this
   simpa using this
theorem bfsF_dch {h : List Fault} (ho : heapOk h) {f : Int} (h0 : 0 ≤ f) (h1 : f < h.length) : bfsF h f = dchF h f :=
 bfsG_dch ho (h.length + 1) [] f h0 h1 (by omega) (fun a ha => by cases ha)
theorem dchG_dec {h : List Fault} (ho : heapOk h) : ∀ (n : Nat) (f : Int), f < h.length → (dchG h n f).Pairwise (fun a b => b < a) ∧ ∀ a ∈ dchG h n f, a ≤ f
 | 0, f, _ => ⟨.nil, fun a ha => by cases ha⟩
 | n + 1, f, h1 => by
  simp only [dchG]
  split
  ·rename_i h0
   obtain ⟨o1, o2, o3⟩ := ho f.toNat (by omega)
   have e3 : ctxOf h f < f := by have : ctxOf h f < f.toNat := o3; omega
   obtain ⟨q1, q2⟩ := dchG_dec ho n (ctxOf h f) (by omega)
   refine ⟨.cons (fun a ha => by have := q2 a ha; omega) q1, fun a ha => ?_⟩
   rcases List.mem_cons.1 ha with q | q
   ·omega
   ·have := q2 a q; omega
  ·exact ⟨.nil, fun a ha => by cases ha⟩
theorem fold_insF : ∀ (d out : List Int), d.Pairwise (fun a b => b < a) → (∀ a ∈ d, ∀ b ∈ out, a < b) → d.foldl insF out = d.reverse ++ out
 | [], out, _, _ => rfl
 | v :: d, out, hp, hm => by
  rw [List.foldl_cons]
  have hi : insF out v = v :: out := by
   have hk : insK out v = 0 := by
    cases out with
    | nil => rfl
    | cons b out =>
     have := hm v (List.mem_cons_self ..) b (List.mem_cons_self ..)
     have : ¬ b < v := by omega
     simp [insK, this]
   unfold insF
   rw [hk, if_pos]
   ·simp
   ·cases out with
    | nil => exact .inl rfl
    | cons b out =>
     have := hm v (List.mem_cons_self ..) b (List.mem_cons_self ..)
     right; simp; omega
  obtain ⟨p1, p2⟩ := List.pairwise_cons.1 hp
  rw [hi, fold_insF d (v :: out) p2 (fun a ha b hb => ?_)]
  ·simp
  ·rcases List.mem_cons.1 hb with q | q
   ·subst q; exact p1 a ha
   ·exact hm a (List.mem_cons_of_mem _ ha) b q
theorem sortI_dec {d : List Int} (hp : d.Pairwise (fun a b => b < a)) : sortI d = d.reverse := by
 have s1 : (sortI d).Pairwise (fun a b => a ≤ b) := by
  have := List.pairwise_mergeSort (le := fun x y : Int => decide (x ≤ y)) (fun a b c h1 h2 => by simp at *; omega) (fun a b => by simp; omega) d
  exact this.imp (fun h => by simpa using h)
 have s2 : d.reverse.Pairwise (fun a b => a ≤ b) := by
  rw [List.pairwise_reverse]
  exact hp.imp (fun h => by omega)
 have pm : (sortI d).Perm d.reverse := (List.mergeSort_perm d _).trans (List.reverse_perm d).symm
 exact pm.eq_of_pairwise (fun a b _ _ h1 h2 => by omega) s1 s2
theorem sort_same {h : List Fault} (ho : heapOk h) {f : Int} (h0 : 0 ≤ f) (h1 : f < h.length) : sortI (bfsF h f) = sortedF (dchF h f) := by
 have hd := (dchG_dec ho (f + 1).toNat f h1).1
 rw [bfsF_dch ho h0 h1]
 unfold sortedF
 have := fold_insF (dchF h f) [] hd (fun a _ b hb => by cases hb)
 rw [this, List.append_nil]
 exact sortI_dec hd
end
section
open Go Go.Sim Go.ChangeShapes Go.WideShapes Go.ChangeAt Go.RowKit
set_option maxRecDepth 100000

theorem own : ownKnob Tryz.prog.godebug = none := by kernel_rfl
theorem laidOut : laidOutB Tryz.prog = true := by kernel_rfl
def IsRow (k : IntKind) (w : World) (a : Option Addr) (len cap : Nat) (zs : List Int) : Prop :=
 (a = none ∧ len = 0 ∧ cap = 0 ∧ zs = []) ∨
 ∃ b off, a = some ⟨b, off, none⟩ ∧ b < w.heap.size ∧ len ≤ cap ∧ cap ≤ maxLen ∧ zs.length = cap ∧ (∀ i, i < zs.length → w.cell? ⟨b, off + i, none⟩ = some (.int k (zs.getD i 0))) ∧ ∀ n ∈ zs, (Lit.int k n).wf = true

theorem none_dom (b : Nat) : ¬ AHeap.none.dom b := fun h => h rfl
theorem hrel_none (w : World) : HRel AHeap.none w := ⟨fun b k h => (by cases h), fun b k h => (by cases h)⟩
theorem shape_lt {w : World} {b : Nat} {x : TypeId × Nat} (h : w.shape? b = some x) : b < w.heap.size := by
 unfold World.shape? at h
 rcases Nat.lt_or_ge b w.heap.size with q | q
 ·exact q
 ·rw [Array.getElem?_eq_none q] at h; cases h
theorem row_rel {w : World} {a : Option Addr} {len cap : Nat} {zs : List Int} (h : IsRow .u8 w a len cap zs) : ∃ bs : List UInt8, Rel AHeap.none.dom w (.vsl (bs.map rU) false) (.slice a len cap) := by
 rcases h with ⟨rfl, rfl, rfl, rfl⟩ | ⟨b, off, rfl, hb, hl, hm, hz, hcell, hwz⟩
 ·exact ⟨[], .vnil false⟩
 ·refine ⟨(zs.take len).map fun n => UInt8.ofNat n.toNat, ?_⟩
  have hlen : (((zs.take len).map fun n => UInt8.ofNat n.toNat).map rU).length = len := by simp; omega
  have row : ∀ (p : Nat) (r : List AV), (((zs.take len).map fun n => UInt8.ofNat n.toNat).map rU)[p]? = some r → p < zs.length ∧ r = [.lit (.int .u8 (zs.getD p 0))] := by
   intro p r hp
   obtain ⟨hp1, hp2⟩ := List.getElem?_eq_some_iff.1 hp
   rw [hlen] at hp1
   have hp3 : p < zs.length := by omega
   refine ⟨hp3, ?_⟩
   have hw := hwz (zs.getD p 0) (by rw [List.getD_eq_getElem?_getD, List.getElem?_eq_getElem hp3]; exact List.getElem_mem hp3)
   rw [← hp2]
   have e : zs.getD p 0 = zs[p] := by simp [List.getD_eq_getElem?_getD, hp3]
   simp only [List.getElem_map,List.getElem_take,e] at hw ⊢
   have h0 : 0 ≤ zs[p] ∧ zs[p] ≤ 255 := by simpa [Lit.wf, IntKind.min, IntKind.max, IntKind.signed, IntKind.bits] using hw
   have h1 : ((UInt8.ofNat zs[p].toNat).toNat : Int) = zs[p] := by
    rw [UInt8.toNat_ofNat']
    omega
   show [AV.lit (.int .u8 _)] = _
   rw [h1]
  have key := Rel.vsl (O := AHeap.none.dom) (w := w) (((zs.take len).map fun n => UInt8.ofNat n.toNat).map rU) false b off 1 cap (fun p _ => .int .u8 (zs.getD p 0)) (by rw [hlen]; exact hl) hm (fun h => by cases h) (by first | exact none_dom b | exact fun _ => none_dom b) hb ?_ ?_ ?_ ?_
  ·rw [hlen] at key
   exact key
  ·intro p r hp
   rw [(row p r hp).2]; rfl
  ·intro p q r x hp hx
   obtain ⟨h1, rfl⟩ := row p r hp
   cases q with
   | zero => rw [Nat.mul_one, Nat.add_zero]; exact hcell p h1
   | succ q => simp at hx
  ·intro p q r x hp hx; rfl
  ·intro p q r x hp hx
   obtain ⟨h1, rfl⟩ := row p r hp
   cases q with
   | zero => simp at hx; subst hx; exact .lit _
   | succ q => simp at hx
theorem below_of {H' : AHeap} {w w' : World} (h : Ev AHeap.none.dom w w') : Below w.heap.size w w' :=
 ⟨h.os, h.tape, h.output, h.size, fun k hk => h.keep k hk (none_dom k)⟩
theorem law_walk {f : FuncId} (hc : ∀ (bs : List UInt8) (cb : Bool) (H : AHeap), ACalls Tryz.prog f [.vsl (bs.map rU) cb] H fun r H' => r = B true ∧ H' = H)
  {a : Option Addr} {len cap : Nat} {zs : List Int} {w : World} (h : IsRow .u8 w a len cap zs) :
  Calls Tryz.prog f #[.slice a len cap] w fun e w' => e = .returned (.bool true) ∧ Below w.heap.size w w' := by
 obtain ⟨bs, hr⟩ := row_rel h
 refine ((hc bs false AHeap.none).2 w #[.slice a len cap] (hrel_none w) (RelL.cons hr (RelL.nil _ _))).mono ?_
 rintro e w' ⟨v, r, H', rfl, ⟨rfl, rfl⟩, hv, _, hev, _⟩
 cases hv
 exact ⟨rfl, below_of (H' := AHeap.none) hev⟩
theorem range_only (f : Nat) : ∀ n : Nat, (List.range n).filter (fun i => decide (i = f)) = if f < n then [f] else []
 | 0 => by simp
 | n + 1 => by
  rw [List.range_succ, List.filter_append, range_only f n]
  by_cases h : f < n
  ·rw [if_pos h, if_pos (by omega)]
   have : ¬ n = f := by omega
   simp [this]
  ·rw [if_neg h]
   by_cases e : n = f
   ·rw [if_pos (by omega)]; simp [e]
   ·rw [if_neg (by omega)]; simp [e]
def namedPart (P : Program) (name : String) (f a k : Nat) : Bool := (List.range k).all fun i => (P.funcs[a + i]?).any (·.name == name) == decide (a + i = f)
theorem namedPart_at {P : Program} {name : String} {f a k i : Nat} (h : namedPart P name f a k = true) (h1 : a ≤ i) (h2 : i < a + k) : (P.funcs[i]?).any (·.name == name) = decide (i = f) := by
 unfold namedPart at h
 have := List.all_eq_true.1 h (i - a) (List.mem_range.2 (by omega))
 rw [show a + (i - a) = i by omega] at this
 exact eq_of_beq this
theorem named_of {P : Program} {name : String} {f : Nat} (hf : f < P.funcs.size) (hs : P.funcs.size ≤ 320) (h0 : namedPart P name f 0 40 = true) (h1 : namedPart P name f 40 40 = true) (h2 : namedPart P name f 80 40 = true) (h3 : namedPart P name f 120 40 = true) (h4 : namedPart P name f 160 40 = true) (h5 : namedPart P name f 200 40 = true) (h6 : namedPart P name f 240 40 = true) (h7 : namedPart P name f 280 40 = true) : P.funcNamed name = some f := by
 have key : ∀ i, i < P.funcs.size → (P.funcs[i]?).any (·.name == name) = decide (i = f) := by
  intro i hi
  rcases Nat.lt_or_ge i 40 with q | q
  ·exact namedPart_at h0 (by omega) (by omega)
  rcases Nat.lt_or_ge i 80 with q | q
  ·exact namedPart_at h1 (by omega) (by omega)
  rcases Nat.lt_or_ge i 120 with q | q
  ·exact namedPart_at h2 (by omega) (by omega)
  rcases Nat.lt_or_ge i 160 with q | q
  ·exact namedPart_at h3 (by omega) (by omega)
  rcases Nat.lt_or_ge i 200 with q | q
  ·exact namedPart_at h4 (by omega) (by omega)
  rcases Nat.lt_or_ge i 240 with q | q
  ·exact namedPart_at h5 (by omega) (by omega)
  rcases Nat.lt_or_ge i 280 with q | q
  ·exact namedPart_at h6 (by omega) (by omega)
  ·exact namedPart_at h7 (by omega) (by omega)
 unfold Program.funcNamed
 rw [List.filter_congr (fun i hi => key i (List.mem_range.1 hi)), range_only, if_pos hf]
end
section
open Go Go.Sim
set_option maxRecDepth 100000

inductive Fo where
 | nil
 | node (k a b : Int) (kids rest : Fo)
 deriving Inhabited
def Fo.size : Fo → Nat
 | .nil => 0
 | .node _ _ _ kids rest => 1 + kids.size + rest.size
def Fo.flat : Fo → Int → List Line
 | .nil, _ => []
 | .node k a b kids rest, d => ⟨d, k, a, b⟩ :: (kids.flat (d + 1) ++ rest.flat d)
theorem flat_len : ∀ (f : Fo) (d : Int), (f.flat d).length = f.size
 | .nil, _ => rfl
 | .node k a b kids rest, d => by simp only [Fo.flat,Fo.size,List.length_cons,List.length_append,flat_len kids,flat_len rest]; omega
theorem flat_deep : ∀ (f : Fo) (d : Int), ∀ x ∈ f.flat d, d ≤ x.depth
 | .nil, _, x, h => by simp [Fo.flat] at h
 | .node k a b kids rest, d, x, h => by
  simp only [Fo.flat,List.mem_cons,List.mem_append] at h
  rcases h with rfl | h | h
  ·exact Int.le_refl _
  ·have := flat_deep kids (d + 1) x h; omega
  ·exact flat_deep rest d x h
def Low (d : Int) (post : List Line) : Prop := ∀ l r, post = l :: r → l.depth < d
theorem low_nil (d : Int) : Low d [] := fun l r h => by cases h
theorem low_flat {f : Fo} {d : Int} {post : List Line} (h : Low d post) : Low (d + 1) (f.flat d ++ post) := by
 intro l r e
 cases f with
 | nil => have := h l r e; omega
 | node k a b kids rest =>
  simp only [Fo.flat,List.cons_append] at e
  injection e with e1 e2
  rw [← e1]
  show d < d + 1
  omega
def endP (p : List Line) (i : Nat) : Nat := i + 1 + ((p.drop (i + 1)).takeWhile fun x => decide ((p.getD i default).depth < x.depth)).length
theorem endP_le {p : List Line} {i : Nat} (h : i < p.length) : endP p i ≤ p.length := by
 unfold endP
 have h1 : ((p.drop (i + 1)).takeWhile fun x => decide ((p.getD i default).depth < x.depth)).length ≤ (p.drop (i + 1)).length := (List.takeWhile_sublist _).length_le
 rw [List.length_drop] at h1
 omega
theorem endP_gt (p : List Line) (i : Nat) : i < endP p i := by unfold endP; omega
theorem endP_is {p : List Line} {i k : Nat} (h0 : i < k) (h1 : k ≤ p.length) (h2 : ∀ j, i < j → j < k → (p.getD i default).depth < (p.getD j default).depth) (h3 : k < p.length → ¬ (p.getD i default).depth < (p.getD k default).depth) : endP p i = k := by
 unfold endP
 generalize hd : (p.getD i default).depth = d at h2 h3
 have e : p.drop (i + 1) = (p.take k).drop (i + 1) ++ p.drop k := by
  rw [List.drop_take]
  have : p.drop k = (p.drop (i + 1)).drop (k - (i + 1)) := by rw [List.drop_drop]; congr 1; omega
  rw [this, List.take_append_drop]
 have l1 : ((p.take k).drop (i + 1)).length = k - (i + 1) := by simp; omega
 have a1 : ∀ x ∈ (p.take k).drop (i + 1), decide (d < x.depth) = true := by
  intro x hx
  obtain ⟨j, hj, rfl⟩ := List.mem_iff_getElem.1 hx
  have hj' : i + 1 + j < k := by omega
  have := h2 (i + 1 + j) (by omega) hj'
  rw [List.getD_eq_getElem?_getD, List.getElem?_eq_getElem (by omega)] at this
  simpa using this
 rw [e, List.takeWhile_append_of_pos a1, List.length_append, l1]
 have : (p.drop k).takeWhile (fun x => decide (d < x.depth)) = [] := by
  rcases Nat.lt_or_ge k p.length with q | q
  ·rw [List.drop_eq_getElem_cons q]
   have := h3 q
   rw [List.getD_eq_getElem?_getD, List.getElem?_eq_getElem q] at this
   simp only [Option.getD_some] at this
   rw [List.takeWhile_cons_of_neg (by simpa using this)]
  ·rw [List.drop_eq_nil_of_le q]; rfl
 rw [this]
 simp
 omega

def At (p : List Line) (i : Nat) (d : Int) (f : Fo) : Prop := ∃ pre post, p = pre ++ (f.flat d ++ post) ∧ pre.length = i ∧ Low d post
section
variable {p : List Line} {i : Nat} {d k a b : Int} {f ks re : Fo}
theorem At.len (h : At p i d f) : i + f.size ≤ p.length := by
 obtain ⟨pre, post, rfl, rfl, _⟩ := h
 simp [flat_len]
theorem At.head (h : At p i d (.node k a b ks re)) : i < p.length ∧ p.getD i default = ⟨d, k, a, b⟩ := by
 have hl := h.len
 refine ⟨by simp only [Fo.size] at hl; omega,?_⟩
 obtain ⟨pre, post, rfl, rfl, _⟩ := h
 simp [Fo.flat]
theorem At.kids (h : At p i d (.node k a b ks re)) : At p (i + 1) (d + 1) ks := by
 obtain ⟨pre, post, rfl, rfl, hp⟩ := h
 exact ⟨pre ++ [⟨d, k, a, b⟩], re.flat d ++ post, by simp [Fo.flat], by simp, low_flat hp⟩
theorem At.rest (h : At p i d (.node k a b ks re)) : At p (i + 1 + ks.size) d re := by
 obtain ⟨pre, post, rfl, rfl, hp⟩ := h
 exact ⟨pre ++ ⟨d, k, a, b⟩ :: ks.flat (d + 1), post, by simp [Fo.flat], by simp [flat_len]; omega, hp⟩
theorem At.stop (h : At p i d .nil) (hi : i < p.length) : (p.getD i default).depth < d := by
 obtain ⟨pre, post, rfl, rfl, hp⟩ := h
 cases post with
 | nil => simp [Fo.flat] at hi
 | cons l r => have := hp l r rfl; simpa [Fo.flat] using this
theorem At.deep (h : At p i d f) {j : Nat} (h0 : i ≤ j) (h1 : j < i + f.size) : d ≤ (p.getD j default).depth := by
 have hl := h.len
 obtain ⟨pre, post, rfl, rfl, hp⟩ := h
 have e : (pre ++ (f.flat d ++ post)).getD j default = (f.flat d).getD (j - pre.length) default := by
  simp only [List.getD_eq_getElem?_getD]
  rw [List.getElem?_append_right h0, List.getElem?_append_left (by rw [flat_len]; omega)]
 rw [e, List.getD_eq_getElem?_getD, List.getElem?_eq_getElem (by rw [flat_len]; omega)]
 exact flat_deep f d _ (List.getElem_mem _)
theorem At.low (h : At p i d f) (hi : i + f.size < p.length) : (p.getD (i + f.size) default).depth < d := by
 obtain ⟨pre, post, rfl, rfl, hp⟩ := h
 cases post with
 | nil => simp [flat_len] at hi
 | cons l r =>
  have := hp l r rfl
  simp only [List.getD_eq_getElem?_getD]
  rw [List.getElem?_append_right (by omega), List.getElem?_append_right (by rw [flat_len]; omega), flat_len]
  simpa using this
theorem At.top (h : At p i d f) {j : Nat} (hj : i ≤ j) (h2 : j < p.length) (h3 : j ≤ i + f.size) (hf : ∀ k a b kids rest, f = .node k a b kids rest → j = i → (p.getD j default).depth ≤ d) : j = i → (p.getD j default).depth ≤ d := by
 intro e
 subst e
 cases f with
 | nil => have := h.stop h2; omega
 | node k a b kids rest => exact hf _ _ _ _ _ rfl rfl
theorem At.first (h : At p i d f) (hi : i < p.length) : (p.getD i default).depth ≤ d := by
 cases f with
 | nil => have := h.stop hi; omega
 | node k a b kids rest => rw [h.head.2]; exact Int.le_refl _
theorem At.endP (h : At p i d (.node k a b ks re)) : endP p i = i + 1 + ks.size := by
 have hk := h.kids
 have hl := hk.len
 have hd : (p.getD i default).depth = d := by rw [h.head.2]
 refine endP_is (by omega) hl (fun j h1 h2 => ?_) (fun h1 => ?_)
 ·have := hk.deep (j := j) (by omega) (by omega)
  omega
 ·have := h.rest.first h1
  omega
end
theorem at_top {f : Fo} {p : List Line} (h : p = f.flat 0) : At p 0 0 f := ⟨[], [], by simp [h], rfl, low_nil _⟩

def opensK (k : Int) : Bool := inR k 7 12
def followsK (k : Int) : Bool := inR k 8 10
def jumpsK (k : Int) : Bool := inR k 2 6
def chainN : Fo → Nat → List Nat
 | .nil, _ => []
 | .node k _ _ kids rest, i => if followsK k = true then i :: chainN rest (i + 1 + kids.size) else []
def skipF : Fo → Fo
 | .nil => .nil
 | .node k a b kids rest => if followsK k = true then skipF rest else .node k a b kids rest
def skipN : Fo → Nat → Nat
 | .nil, i => i
 | .node k _ _ kids rest, i => if followsK k = true then skipN rest (i + 1 + kids.size) else i
def headsK : Fo → List Int
 | .nil => []
 | .node k _ _ _ rest => if followsK k = true then k :: headsK rest else []
def sibN : Fo → Nat → List Nat
 | .nil, _ => []
 | .node _ _ _ kids rest, i => i :: sibN rest (i + 1 + kids.size)
def tailP (p : List Line) (d : Int) : Nat → Nat → List Nat
 | 0, _ => []
 | n + 1, k => if k < p.length ∧ (p.getD k default).depth = d ∧ followsK (p.getD k default).kind = true then k :: tailP p d n (endP p k) else []
def chainP (p : List Line) (i : Nat) : List Nat := i :: tailP p (p.getD i default).depth p.length (endP p i)
theorem tailP_at {p : List Line} : ∀ (f : Fo) (n i : Nat) (d : Int), At p i d f → p.length ≤ n + i → tailP p d n i = chainN f i
 | .nil, n, i, d, h, hn => by
  cases n with
  | zero => rfl
  | succ n =>
   simp only [tailP,chainN]
   rw [if_neg]
   rintro ⟨h1, h2, _⟩
   have := h.stop h1
   omega
 | .node k a b kids rest, n, i, d, h, hn => by
  have hh := h.head
  cases n with
  | zero => omega
  | succ n =>
   simp only [tailP,chainN]
   rw [hh.2]
   by_cases hk : followsK k = true
   ·rw [if_pos ⟨hh.1, rfl, hk⟩, if_pos hk, h.endP]
    rw [tailP_at rest n _ d h.rest (by omega)]
   ·rw [if_neg (fun q => hk q.2.2), if_neg hk]
theorem chainP_at {p : List Line} {i : Nat} {d k a b : Int} {kids rest : Fo} (h : At p i d (.node k a b kids rest)) : chainP p i = i :: chainN rest (i + 1 + kids.size) := by
 have hd : (p.getD i default).depth = d := by rw [h.head.2]
 unfold chainP
 rw [hd, h.endP, tailP_at rest _ _ d h.rest (by omega)]
section
variable {p : List Line} {i : Nat} {d : Int}
theorem At.skip : ∀ {f : Fo} {i : Nat}, At p i d f → At p (skipN f i) d (skipF f)
 | .nil, i, h => h
 | .node k a b kids rest, i, h => by
  simp only [skipN,skipF]
  split
  ·exact At.skip h.rest
  ·exact h
theorem skipN_add : ∀ (f : Fo) (i : Nat), skipN f i + (skipF f).size = i + f.size
 | .nil, i => rfl
 | .node k a b kids rest, i => by
  simp only [skipN,skipF]
  split
  ·rw [skipN_add rest]; simp only [Fo.size]; omega
  ·rfl
theorem skipF_size : ∀ (f : Fo), (skipF f).size ≤ f.size
 | .nil => Nat.le_refl _
 | .node k a b kids rest => by
  simp only [skipF]
  split
  ·have := skipF_size rest; simp only [Fo.size]; omega
  ·exact Nat.le_refl _
theorem chain_end : ∀ (f : Fo) (i j : Nat), At p i d f → endP p j = i → endP p ((j :: chainN f i).getLastD 0) = skipN f i
 | .nil, i, j, h, hj => by simpa [chainN, skipN] using hj
 | .node k a b kids rest, i, j, h, hj => by
  simp only [chainN,skipN]
  split
  ·have := chain_end rest (i + 1 + kids.size) i h.rest h.endP
   simpa using this
  ·simpa using hj
end
end
section
open Go Go.Sim
set_option maxRecDepth 100000

def numOk (t : List Class) (k a b : Int) : Bool :=
 if k = 1 ∨ k = 4 then inR a 0 99 && decide (b = 0)
 else if k = 2 then hasF t a && inR b 0 99
 else if k = 8 then hasF t a && decide (b = 0)
 else if k = 11 then inR a 0 9 && inR b 0 1
 else if k = 12 then inR a 0 3 && decide (b = 0)
 else inR k 0 12 && (decide (a = 0) && decide (b = 0))
def Fo.isNil : Fo → Bool
 | .nil => true
 | _ => false
def numsF (t : List Class) : Fo → Int → Bool
 | .nil, _ => true
 | .node k a b kids rest, d => numOk t k a b && (inR d 0 5 && ((opensK k == !kids.isNil) && (numsF t kids (d + 1) && numsF t rest d)))
def tryG : Int → List Int → Bool
 | _, [] => true
 | last, k :: ks => ((decide (k = 8) && decide (last ≤ 8)) || ((decide (k = 9) && decide (last = 8)) || (decide (k = 10) && decide (last < 10)))) && tryG k ks
def tryOkF (ks : List Int) : Bool := tryG 7 ks && (decide (1 ≤ ks.length) && decide ((ks.filter fun k => decide (k = 8)).length ≤ 6))
def okF : Fo → Bool → Bool → Bool
 | .nil, _, _ => true
 | .node k _ _ kids rest, lp, m =>
  if followsK k = true then m && (okF kids lp false && okF rest lp true)
  else if k = 5 ∨ k = 6 then lp && okF rest lp false
  else if k = 7 then tryOkF (headsK rest) && (okF kids lp false && okF rest lp true)
  else if k = 11 then okF kids lp false && okF rest lp false
  else if k = 12 then okF kids true false && okF rest lp false
  else okF rest lp false
def ValidP (t : List Class) (p : List Line) : Prop := validT t = true ∧ p.length ≤ 24 ∧ ∃ f : Fo, p = f.flat 0 ∧ numsF t f 0 = true ∧ okF f false false = true

structure En where
 ed : Int
 val : Int
 deriving Inhabited, DecidableEq
structure RS where
 log : List Int
 fs : List Fault
 first : Int
 deriving Inhabited
def En.next : En := ⟨0, 0⟩
def RS.tell (s : RS) (n : Int) : RS := { s with log := s.log ++ [n] }
def RS.raise (s : RS) (c d h : Int) : RS := { s with fs := raiseF s.fs c d h }
def RS.jump (s : RS) (k : Int) (i : Nat) : RS := if jumpsK k = true ∧ s.first < 0 then { s with first := i } else s
def lineS (k a b : Int) (h : Int) (s : RS) : En × RS :=
 if k = 1 then (.next, s.tell a)
 else if k = 2 then (⟨2, s.fs.length⟩, s.raise a b h)
 else if k = 3 then (if h < 0 then (⟨2, s.fs.length⟩, s.raise 0 0 (-1)) else (⟨2, h⟩, s))
 else if k = 4 then (⟨1, a⟩, s)
 else if k = 5 then (⟨3, 0⟩, s)
 else if k = 6 then (⟨4, 0⟩, s)
 else (.next, s)
def loopS (body : RS → En × RS) : Nat → RS → En × RS
 | 0, s => (.next, s)
 | n + 1, s => if (body s).1.ed = 1 ∨ (body s).1.ed = 2 then body s else if (body s).1.ed = 3 then (.next, (body s).2) else loopS body n (body s).2
def withS (a b : Int) (r : En × RS) : En × RS := (if r.1.ed = 2 ∧ b = 1 then .next else r.1, r.2.tell (200 + a))
def lineR (k a b : Int) (i : Nat) (h : Int) (body : RS → En × RS) (s : RS) : En × RS :=
 if k = 11 then withS a b (body (s.tell (100 + a)))
 else if k = 12 then loopS body a.toNat s
 else lineS k a b h (s.jump k i)
def clsOf (s : RS) (v : Int) : Int := (s.fs.getD v.toNat default).cls
def runF (t : List Class) : Fo → Nat → Option (En × En) → Int → RS → En × RS
 | .nil, _, none, _, s => (.next, s)
 | .nil, _, some q, _, s => if q.2.ed = 0 then (.next, s) else (q.2, s)
 | .node k a b kids rest, i, none, h, s =>
  if k = 7 then
   (fun r : En × RS => runF t rest (i + 1 + kids.size) (some (r.1, r.1)) h r.2) (runF t kids (i + 1) none h s)
  else
   (fun r : En × RS => if r.1.ed = 0 then runF t rest (i + 1 + kids.size) none h r.2 else r) (lineR k a b i h (fun s => runF t kids (i + 1) none h s) s)
 | .node k a b kids rest, i, some q, h, s =>
  if followsK k = true then
   if k = 8 then
    if q.1.ed = 2 ∧ isF t (clsOf s q.1.val) a = true then
     (fun r : En × RS => runF t rest (i + 1 + kids.size) (some (⟨-1, 0⟩, r.1)) h r.2) (runF t kids (i + 1) none q.1.val s)
    else runF t rest (i + 1 + kids.size) (some q) h s
   else if k = 9 then
    if q.1.ed = 0 then
     (fun r : En × RS => runF t rest (i + 1 + kids.size) (some (q.1, r.1)) h r.2) (runF t kids (i + 1) none h s)
    else runF t rest (i + 1 + kids.size) (some q) h s
   else
    (fun r : En × RS => runF t rest (i + 1 + kids.size) (some (q.1, if r.1.ed = 0 then q.2 else r.1)) h r.2) (runF t kids (i + 1) none (if q.2.ed = 2 then q.2.val else h) s)
  else if q.2.ed = 0 then
   if k = 7 then
    (fun r : En × RS => runF t rest (i + 1 + kids.size) (some (r.1, r.1)) h r.2) (runF t kids (i + 1) none h s)
   else
    (fun r : En × RS => if r.1.ed = 0 then runF t rest (i + 1 + kids.size) none h r.2 else r) (lineR k a b i h (fun s => runF t kids (i + 1) none h s) s)
  else (q.2, s)
def chainR (t : List Class) : Fo → Nat → En → En → Int → RS → En × RS
 | .nil, _, _, e, _, s => (e, s)
 | .node k a _ kids rest, i, st, e, h, s =>
  if followsK k = true then
   if k = 8 then
    if st.ed = 2 ∧ isF t (clsOf s st.val) a = true then
     (fun r : En × RS => chainR t rest (i + 1 + kids.size) ⟨-1, 0⟩ r.1 h r.2) (runF t kids (i + 1) none st.val s)
    else chainR t rest (i + 1 + kids.size) st e h s
   else if k = 9 then
    if st.ed = 0 then
     (fun r : En × RS => chainR t rest (i + 1 + kids.size) st r.1 h r.2) (runF t kids (i + 1) none h s)
    else chainR t rest (i + 1 + kids.size) st e h s
   else
    (fun r : En × RS => chainR t rest (i + 1 + kids.size) st (if r.1.ed = 0 then e else r.1) h r.2) (runF t kids (i + 1) none (if e.ed = 2 then e.val else h) s)
  else (e, s)
theorem runF_some (t : List Class) : ∀ (f : Fo) (i : Nat) (st e : En) (h : Int) (s : RS),
  runF t f i (some (st, e)) h s = if (chainR t f i st e h s).1.ed = 0 then runF t (skipF f) (skipN f i) none h (chainR t f i st e h s).2 else chainR t f i st e h s
 | .nil, i, st, e, h, s => rfl
 | .node k a b kids rest, i, st, e, h, s => by
  simp only [runF,chainR,skipF,skipN]
  by_cases hk : followsK k = true
  ·simp only [hk,if_true]
   by_cases h8 : k = 8
   ·simp only [h8,if_true]
    split
    ·exact runF_some t rest _ _ _ _ _
    ·exact runF_some t rest _ _ _ _ _
   ·simp only [h8,if_false]
    by_cases h9 : k = 9
    ·simp only [h9,if_true]
     split
     ·exact runF_some t rest _ _ _ _ _
     ·exact runF_some t rest _ _ _ _ _
    ·simp only [h9,if_false]
     exact runF_some t rest _ _ _ _ _
  ·simp only [hk,if_false]
   rfl
theorem runF_try {t : List Class} {a b : Int} {kids rest : Fo} {i : Nat} {h : Int} {s : RS} : runF t (.node 7 a b kids rest) i none h s =
  (fun r : En × RS => runF t rest (i + 1 + kids.size) (some (r.1, r.1)) h r.2) (runF t kids (i + 1) none h s) := by
 simp only [runF,if_true]
theorem runF_line {t : List Class} {k a b : Int} {kids rest : Fo} {i : Nat} {h : Int} {s : RS} (hk : k ≠ 7) : runF t (.node k a b kids rest) i none h s =
  (fun r : En × RS => if r.1.ed = 0 then runF t rest (i + 1 + kids.size) none h r.2 else r) (lineR k a b i h (fun s => runF t kids (i + 1) none h s) s) := by
 simp only [runF,hk,if_false]

structure FsOk (t : List Class) (fs : List Fault) : Prop where
 ho : heapOk fs
 cls : ∀ k, k < fs.length → hasF t (fs.getD k default).cls = true ∧ inR (fs.getD k default).code 0 99 = true
theorem fsOk_nil (t : List Class) : FsOk t [] := ⟨heapOk_nil, fun k h => by simp at h⟩
theorem FsOk.raise {t : List Class} {fs : List Fault} (h : FsOk t fs) {c d g : Int} (hc : hasF t c = true) (hd : inR d 0 99 = true) (hg : g < fs.length) : FsOk t (raiseF fs c d g) := by
 refine ⟨raiseF_ok h.ho hg, fun k hk => ?_⟩
 rw [raiseF_len] at hk
 rcases Nat.lt_or_ge k fs.length with q | q
 ·have e : (raiseF fs c d g).getD k default = fs.getD k default := by
   simp only [raiseF,List.getD_eq_getElem?_getD]; rw [List.getElem?_append_left q]
  rw [e]; exact h.cls k q
 ·have e : (raiseF fs c d g).getD k default = ⟨c, d, -1, if 0 ≤ g then g else -1, false⟩ := by
   have : k = fs.length := by omega
   subst this
   simp [raiseF, List.getD_eq_getElem?_getD]
  rw [e]; exact ⟨hc, hd⟩
structure Goes (t : List Class) (n : Nat) (s : RS) (e : En) (s' : RS) : Prop where
 log : ∃ l, s'.log = s.log ++ l ∧ l.length ≤ n
 fs : ∃ l, s'.fs = s.fs ++ l ∧ l.length ≤ n
 ok : FsOk t s'.fs
 val : e.ed = 2 → 0 ≤ e.val ∧ e.val < s'.fs.length
 first : -1 ≤ s.first → -1 ≤ s'.first
theorem Goes.len {t : List Class} {n : Nat} {s : RS} {e : En} {s' : RS} (h : Goes t n s e s') : s.fs.length ≤ s'.fs.length ∧ s'.fs.length ≤ s.fs.length + n ∧ s'.log.length ≤ s.log.length + n := by
 obtain ⟨l, h1, h2⟩ := h.fs
 obtain ⟨m, h3, h4⟩ := h.log
 rw [h1, h3]; simp; omega
theorem Goes.trans {t : List Class} {n m k : Nat} {s : RS} {e : En} {s' : RS} {e' : En} {s'' : RS} (h : Goes t n s e s') (g : Goes t m s' e' s'') (hk : n + m ≤ k) : Goes t k s e' s'' := by
 obtain ⟨l, h1, h2⟩ := h.fs
 obtain ⟨l', h3, h4⟩ := h.log
 obtain ⟨m1, g1, g2⟩ := g.fs
 obtain ⟨m2, g3, g4⟩ := g.log
 exact ⟨⟨l' ++ m2, by rw [g3, h3, List.append_assoc], by simp; omega⟩, ⟨l ++ m1, by rw [g1, h1, List.append_assoc], by simp; omega⟩, g.ok, g.val, fun q => g.first (h.first q)⟩
theorem Goes.end {t : List Class} {n : Nat} {s : RS} {e e' : En} {s' : RS} (h : Goes t n s e s') (he : e'.ed = 2 → 0 ≤ e'.val ∧ e'.val < s'.fs.length) : Goes t n s e' s' := ⟨h.log, h.fs, h.ok, he, h.first⟩
theorem Goes.le {t : List Class} {n m : Nat} {s : RS} {e : En} {s' : RS} (h : Goes t n s e s') (hm : n ≤ m) : Goes t m s e s' := by
 obtain ⟨l, h1, h2⟩ := h.fs
 obtain ⟨l', h3, h4⟩ := h.log
 exact ⟨⟨l', h3, by omega⟩, ⟨l, h1, by omega⟩, h.ok, h.val, h.first⟩
theorem goes_self {t : List Class} {s : RS} (h : FsOk t s.fs) {e : En} (he : e.ed = 2 → 0 ≤ e.val ∧ e.val < s.fs.length) : Goes t 0 s e s := ⟨⟨[], by simp, by simp⟩, ⟨[], by simp, by simp⟩, h, he, fun q => q⟩
theorem goes_next {t : List Class} {s : RS} (h : FsOk t s.fs) : Goes t 0 s .next s := goes_self h (fun q => by cases q)
theorem goes_tell {t : List Class} {s : RS} (h : FsOk t s.fs) {n : Int} {e : En} (he : e.ed = 2 → 0 ≤ e.val ∧ e.val < s.fs.length) : Goes t 1 s e (s.tell n) := ⟨⟨[n], rfl, by simp⟩, ⟨[], by simp [RS.tell], by simp⟩, h, he, fun q => q⟩
theorem goes_raise {t : List Class} {s : RS} (h : FsOk t s.fs) {c d g : Int} (hc : hasF t c = true) (hd : inR d 0 99 = true) (hg : g < s.fs.length) : Goes t 1 s ⟨2, s.fs.length⟩ (s.raise c d g) :=
 ⟨⟨[], by simp [RS.raise], by simp⟩, ⟨_, rfl, by simp⟩, h.raise hc hd hg, fun _ => ⟨by show (0 : Int) ≤ s.fs.length; omega, by show (s.fs.length : Int) < (raiseF s.fs c d g).length; rw [raiseF_len]; omega⟩, fun q => q⟩
theorem goes_jump {t : List Class} {s : RS} (h : FsOk t s.fs) {k : Int} {i : Nat} : Goes t 0 s .next (s.jump k i) := by
 unfold RS.jump
 split
 ·exact ⟨⟨[], by simp, by simp⟩, ⟨[], by simp, by simp⟩, h, fun q => (by cases q), fun q => by show (-1 : Int) ≤ i; omega⟩
 ·exact goes_next h
def cost : Fo → Nat
 | .nil => 0
 | .node k a _ kids rest => 2 + (if k = 12 then a.toNat * cost kids else cost kids) + cost rest
theorem goes_lineS {t : List Class} (ht : validT t = true) {s : RS} (hs : FsOk t s.fs) {k a b h : Int} (hn : numOk t k a b = true) (hh : h < s.fs.length) : Goes t 1 s (lineS k a b h s).1 (lineS k a b h s).2 := by
 have t0 := (validT_len ht).1
 unfold lineS
 split
 ·exact goes_tell hs (fun q => by cases q)
 ·split
  ·rename_i h1 h2
   subst h2
   unfold numOk at hn
   simp only [show ¬ ((2 : Int) = 1 ∨ (2 : Int) = 4) by decide,if_false,if_true,Bool.and_eq_true] at hn
   exact goes_raise hs hn.1 hn.2 hh
  ·split
   ·split
    ·refine goes_raise hs ?_ (by decide) (by omega)
     unfold hasF inR
     simp only [Bool.and_eq_true,decide_eq_true_eq]; omega
    ·exact (goes_self hs (fun _ => ⟨by show (0 : Int) ≤ h; omega, hh⟩)).le (by omega)
   ·split
    ·exact (goes_self hs (fun q => by cases q)).le (by omega)
    ·split
     ·exact (goes_self hs (fun q => by cases q)).le (by omega)
     ·split
      ·exact (goes_self hs (fun q => by cases q)).le (by omega)
      ·exact (goes_self hs (fun q => by cases q)).le (by omega)
theorem goes_lineR {t : List Class} (ht : validT t = true) {k a b h : Int} {i n : Nat} {body : RS → En × RS} {s : RS} (hs : FsOk t s.fs) (hn : numOk t k a b = true) (hh : h < s.fs.length)
  (hb : ∀ s' : RS, FsOk t s'.fs → s.fs.length ≤ s'.fs.length → Goes t n s' (body s').1 (body s').2) : Goes t (2 + (if k = 12 then a.toNat * n else n)) s (lineR k a b i h body s).1 (lineR k a b i h body s).2 := by
 unfold lineR
 by_cases h11 : k = 11
 ·have h1 := goes_tell (n := 100 + a) hs (e := .next) (fun q => by cases q)
  have h2 := hb (s.tell (100 + a)) h1.ok (Nat.le_refl _)
  have h3 := h1.trans h2 (Nat.le_refl _)
  rw [if_neg (show ¬ k = 12 by omega), if_pos h11]
  unfold withS
  have h4 : Goes t 1 (body (s.tell (100 + a))).2 (if (body (s.tell (100 + a))).1.ed = 2 ∧ b = 1 then .next else (body (s.tell (100 + a))).1) ((body (s.tell (100 + a))).2.tell (200 + a)) := by
   refine goes_tell h2.ok ?_
   split
   ·exact fun q => by cases q
   ·exact h2.val
  exact h3.trans h4 (by omega)
 ·rw [if_neg h11]
  by_cases h12 : k = 12
  ·rw [if_pos h12, if_pos h12]
   have key : ∀ (m : Nat) (s' : RS), FsOk t s'.fs → s.fs.length ≤ s'.fs.length → Goes t (m * n) s' (loopS body m s').1 (loopS body m s').2 := by
    intro m
    induction m with
    | zero => intro s' hs' _; exact (goes_next hs').le (by omega)
    | succ m ih =>
     intro s' hs' hl
     have h1 := hb s' hs' hl
     have e : (m + 1) * n = n + m * n := by rw [Nat.succ_mul]; omega
     unfold loopS
     split
     ·exact h1.le (by omega)
     ·split
      ·exact (h1.end (fun q => by cases q)).le (by omega)
      ·exact h1.trans (ih _ h1.ok (Nat.le_trans hl h1.len.1)) (by omega)
   exact (key a.toNat s hs (Nat.le_refl _)).le (by omega)
  ·rw [if_neg h12, if_neg h12]
   have h1 := goes_jump (k := k) (i := i) hs
   have e : (s.jump k i).fs = s.fs := by unfold RS.jump; split <;> rfl
   have h2 := goes_lineS ht h1.ok hn (show h < (s.jump k i).fs.length by rw [e]; exact hh)
   exact h1.trans h2 (by omega)
theorem numsF_node {t : List Class} {k a b d : Int} {kids rest : Fo} (h : numsF t (.node k a b kids rest) d = true) : numOk t k a b = true ∧ inR d 0 5 = true ∧ (opensK k = !kids.isNil) ∧ numsF t kids (d + 1) = true ∧ numsF t rest d = true := by
 simp only [numsF,Bool.and_eq_true,beq_iff_eq] at h
 exact ⟨h.1, h.2.1, h.2.2.1, h.2.2.2.1, h.2.2.2.2⟩
def PdOk (s : RS) : Option (En × En) → Prop
 | none => True
 | some q => (q.1.ed = 2 → 0 ≤ q.1.val ∧ q.1.val < s.fs.length) ∧ (q.2.ed = 2 → 0 ≤ q.2.val ∧ q.2.val < s.fs.length)
theorem cost_node_le {k a b : Int} {kids rest : Fo} (hk : k ≠ 12) : cost (.node k a b kids rest) = 2 + cost kids + cost rest := by simp [cost, hk]
theorem goes_run {t : List Class} (ht : validT t = true) : ∀ (f : Fo) (i : Nat) (pd : Option (En × En)) (d h : Int) (s : RS), numsF t f d = true → FsOk t s.fs → h < s.fs.length → PdOk s pd → Goes t (cost f) s (runF t f i pd h s).1 (runF t f i pd h s).2 := by
 intro f
 induction f with
 | nil =>
  intro i pd d h s _ hs _ hp
  cases pd with
  | none => exact goes_next hs
  | some q =>
   simp only [runF]
   split
   ·exact goes_next hs
   ·exact goes_self hs hp.2
 | node k a b kids rest ihk ihr =>
  intro i pd d h s hn hs hh hp
  obtain ⟨n1, n2, n3, n4, n5⟩ := numsF_node hn
  have hline : k ≠ 7 → Goes t (cost (.node k a b kids rest)) s ((fun r : En × RS => if r.1.ed = 0 then runF t rest (i + 1 + kids.size) none h r.2 else r) (lineR k a b i h (fun s => runF t kids (i + 1) none h s) s)).1 ((fun r : En × RS => if r.1.ed = 0 then runF t rest (i + 1 + kids.size) none h r.2 else r) (lineR k a b i h (fun s => runF t kids (i + 1) none h s) s)).2 := by
   intro _
   have h1 := goes_lineR (i := i) (body := fun s => runF t kids (i + 1) none h s) (n := cost kids) ht hs n1 hh (fun s' hs' hl => ihk (i + 1) none (d + 1) h s' n4 hs' (by omega) trivial)
   generalize lineR k a b i h (fun s => runF t kids (i + 1) none h s) s = r at h1 ⊢
   have hl := h1.len
   have ec : cost (.node k a b kids rest) = 2 + (if k = 12 then a.toNat * cost kids else cost kids) + cost rest := rfl
   rw [ec]
   by_cases h0 : r.1.ed = 0
   ·simp only [h0,if_true]
    have h2 := ihr (i + 1 + kids.size) none d h r.2 n5 h1.ok (by omega) trivial
    exact h1.trans h2 (Nat.le_refl _)
   ·simp only [h0,if_false]
    exact h1.le (by omega)
  have htry : k = 7 → Goes t (cost (.node k a b kids rest)) s ((fun r : En × RS => runF t rest (i + 1 + kids.size) (some (r.1, r.1)) h r.2) (runF t kids (i + 1) none h s)).1 ((fun r : En × RS => runF t rest (i + 1 + kids.size) (some (r.1, r.1)) h r.2) (runF t kids (i + 1) none h s)).2 := by
   intro h7
   have h1 := ihk (i + 1) none (d + 1) h s n4 hs hh trivial
   generalize runF t kids (i + 1) none h s = r at h1 ⊢
   have hl := h1.len
   rw [cost_node_le (by omega)]
   have h2 := ihr (i + 1 + kids.size) (some (r.1, r.1)) d h r.2 n5 h1.ok (by omega) ⟨h1.val, h1.val⟩
   exact h1.trans h2 (by omega)
  cases pd with
  | none =>
   simp only [runF]
   split
   ·exact htry ‹_›
   ·exact hline ‹_›
  | some q =>
   simp only [runF]
   by_cases hk : followsK k = true
   ·simp only [hk,if_true]
    have hk' := hk
    simp only [followsK,inR,Bool.and_eq_true,decide_eq_true_eq] at hk'
    have pass : ∀ (q' : En × En), PdOk s (some q') → Goes t (cost (.node k a b kids rest)) s (runF t rest (i + 1 + kids.size) (some q') h s).1 (runF t rest (i + 1 + kids.size) (some q') h s).2 := by
     intro q' hq'
     rw [cost_node_le (by omega)]
     exact (ihr _ (some q') d h s n5 hs hh hq').le (by omega)
    have go : ∀ (g : Int) (st : En) (e : En × RS → En), g < s.fs.length → (st.ed = 2 → 0 ≤ st.val ∧ st.val < s.fs.length) → (∀ r : En × RS, (r.1.ed = 2 → 0 ≤ r.1.val ∧ r.1.val < r.2.fs.length) → s.fs.length ≤ r.2.fs.length → (e r).ed = 2 → 0 ≤ (e r).val ∧ (e r).val < r.2.fs.length) →
      Goes t (cost (.node k a b kids rest)) s ((fun r : En × RS => runF t rest (i + 1 + kids.size) (some (st, e r)) h r.2) (runF t kids (i + 1) none g s)).1 ((fun r : En × RS => runF t rest (i + 1 + kids.size) (some (st, e r)) h r.2) (runF t kids (i + 1) none g s)).2 := by
     intro g st e hg hst he
     have h1 := ihk (i + 1) none (d + 1) g s n4 hs hg trivial
     generalize runF t kids (i + 1) none g s = r at h1 ⊢
     have hl := h1.len
     rw [cost_node_le (by omega)]
     have h2 := ihr (i + 1 + kids.size) (some (st, e r)) d h r.2 n5 h1.ok (by omega) ⟨fun q => by have := hst q; show 0 ≤ st.val ∧ st.val < (r.2.fs.length : Int); omega, he r h1.val hl.1⟩
     exact h1.trans h2 (by omega)
    split
    ·split
     ·rename_i hq
      exact go q.1.val ⟨-1, 0⟩ (fun r => r.1) (hp.1 hq.1).2 (fun q => by cases q) (fun r hr _ => hr)
     ·exact pass q hp
    ·split
     ·split
      ·exact go h q.1 (fun r => r.1) hh hp.1 (fun r hr _ => hr)
      ·exact pass q hp
     ·refine go _ q.1 (fun r => if r.1.ed = 0 then q.2 else r.1) ?_ hp.1 (fun r hr hl => ?_)
      ·split
       ·exact (hp.2 ‹_›).2
       ·exact hh
      ·split
       ·exact fun z => by have := hp.2 z; omega
       ·exact hr
   ·rw [if_neg hk]
    by_cases h0 : q.2.ed = 0
    ·rw [if_pos h0]
     by_cases h7 : k = 7
     ·rw [if_pos h7]; exact htry h7
     ·rw [if_neg h7]; exact hline h7
    ·rw [if_neg h0]; exact (goes_self hs hp.2).le (by omega)
theorem pow_step (n : Nat) : 3 ^ (n + 1) = 3 * 3 ^ n := by rw [Nat.pow_succ]; omega
theorem cost_le {t : List Class} : ∀ (f : Fo) (n : Nat), n ≤ 5 ∨ f = .nil → numsF t f ((5 - n : Nat) : Int) = true → cost f ≤ 2 * 3 ^ (n + 1) * f.size := by
 intro f
 induction f with
 | nil => intro n _ _; simp [cost]
 | node k a b kids rest ihk ihr =>
  intro n hn h
  have hn5 : n ≤ 5 := by rcases hn with q | q; exact q; cases q
  obtain ⟨n1, n2, n3, n4, n5⟩ := numsF_node h
  have hr := ihr n (.inl hn5) n5
  have ha : (if k = 12 then a.toNat * cost kids else cost kids) ≤ 3 * cost kids := by
   split
   ·rename_i h12
    subst h12
    unfold numOk at n1
    simp only [show ¬ ((12 : Int) = 1 ∨ (12 : Int) = 4) by decide,show ¬ (12 : Int) = 2 by decide,show ¬ (12 : Int) = 8 by decide,show ¬ (12 : Int) = 11 by decide,if_false,if_true,Bool.and_eq_true,inR,decide_eq_true_eq] at n1
    exact Nat.mul_le_mul_right _ (by omega)
   ·omega
  have hk : 3 * cost kids ≤ 2 * 3 ^ (n + 1) * kids.size := by
   cases n with
   | zero =>
    have : kids = .nil := by
     cases kids with
     | nil => rfl
     | node k' a' b' x y =>
      obtain ⟨_, m2, _⟩ := numsF_node n4
      simp only [inR,Bool.and_eq_true,decide_eq_true_eq] at m2
      omega
    subst this
    simp [cost, Fo.size]
   | succ n =>
    have e : ((5 - (n + 1) : Nat) : Int) + 1 = ((5 - n : Nat) : Int) := by omega
    rw [e] at n4
    have := ihk n (.inl (by omega)) n4
    have e2 : 2 * 3 ^ (n + 1 + 1) * kids.size = 3 * (2 * 3 ^ (n + 1) * kids.size) := by
     rw [pow_step (n + 1)]
     simp only [Nat.mul_assoc,Nat.mul_left_comm]
    omega
  simp only [cost,Fo.size]
  have p1 : 1 ≤ 3 ^ (n + 1) := Nat.one_le_pow _ _ (by omega)
  have e3 : 2 * 3 ^ (n + 1) * (1 + kids.size + rest.size) = 2 * 3 ^ (n + 1) + 2 * 3 ^ (n + 1) * kids.size + 2 * 3 ^ (n + 1) * rest.size := by
   rw [Nat.mul_add, Nat.mul_add, Nat.mul_one]
  omega
theorem cost_small {t : List Class} {f : Fo} (h : numsF t f 0 = true) (hs : f.size ≤ 24) : cost f ≤ 34992 := by
 have := cost_le f 5 (.inl (Nat.le_refl _)) h
 have e : 2 * 3 ^ (5 + 1) = 1458 := rfl
 rw [e] at this
 omega
end
section
open Go Go.Sim
set_option maxRecDepth 100000

abbrev aProg (p : List Line) (cl : Bool) : AV := .vsl (p.map rLine) cl
def toI (l : List Nat) : List Int := l.map fun (n : Nat) => (n : Int)
theorem c_endOf (p : List Line) (cl : Bool) (i : Nat) (H : AHeap) (hi : i < p.length) : ACalls Tryz.prog 94 [aProg p cl, I i] H fun r H' => r = I (endP p i) ∧ H' = H := by
 refine acalls_len (by kernel_rfl) (List.mem_cons_self ..) fun hl => ?_
 rw [List.length_map] at hl
 refine acalls_of0 Tryz.func94 rfl (by kernel_rfl) rfl rfl (awp_sound (fz := fun _ => []) (im := fun _ => false) mixed _ _ _ _ (by kernel_rfl) ?_)
 simp +contextual -dsimp -implicitDefEqProofs (maxSteps:=5000000) only [go_sem,reduceIte,reduceCtorEq,Nat.reduceEqDiff,Nat.reduceBEq,Nat.reduceAdd,Nat.reduceLeDiff,Nat.reduceMul,Nat.reduceLT,Int.reduceEq,Int.reduceLT,Int.reduceLE]
 refine aloop mixed (fz := fun _ => []) (im := fun _ => false) (by kernel_rfl) (fun m tm H' => ∃ k : Nat, m = p.length - k ∧ i < k ∧ k ≤ p.length ∧ H' = H ∧ tm 0 = aProg p cl ∧ tm 1 = I i ∧ tm 5 = I k ∧ ∀ j, i < j → j < k → (p.getD i default).depth < (p.getD j default).depth) (p.length - (i + 1)) ⟨i + 1, rfl, by omega, by omega, rfl, ?_⟩ ?_
 ·simp +contextual -dsimp -implicitDefEqProofs (maxSteps:=5000000) only [go_sem,reduceIte,reduceCtorEq,Nat.reduceEqDiff,Nat.reduceBEq,Nat.reduceAdd,Nat.reduceLeDiff,Nat.reduceMul,Nat.reduceLT,Int.reduceEq,Int.reduceLT,Int.reduceLE]
  exact ⟨I_wrap (by omega) (by omega) (by omega), fun j h1 h2 => by omega⟩
 ·rintro m tm _ ⟨k, rfl, h1, h2, rfl, t0, t1, t5, hd⟩
  simp +contextual -dsimp -implicitDefEqProofs (maxSteps:=5000000) only [go_sem,reduceIte,reduceCtorEq,Nat.reduceEqDiff,Nat.reduceBEq,Nat.reduceAdd,Nat.reduceLeDiff,Nat.reduceMul,Nat.reduceLT,Int.reduceEq,Int.reduceLT,Int.reduceLE,t0,t1,t5,hi]
  refine draw_intro [0, 0, 0, 0, 0, 0, 0, 0, 0, 0, 0, 0, 0, 0, 0, 0, 0] AHeap.none (by kernel_rfl) none_le ?_
  simp +contextual -dsimp -implicitDefEqProofs (maxSteps:=5000000) only [go_sem,reduceIte,reduceCtorEq,Nat.reduceEqDiff,Nat.reduceBEq,Nat.reduceAdd,Nat.reduceLeDiff,Nat.reduceMul,Nat.reduceLT,Int.reduceEq,Int.reduceLT,Int.reduceLE,t0,t1,t5,hi]
  refine ⟨fun q => ⟨_, by omega, k + 1, rfl, by omega, by omega, I_wrap (by omega) (by omega) (by omega), fun j g1 g2 => ?_⟩, fun q => ?_⟩
  ·rcases Nat.lt_or_ge j k with g3 | g3
   ·exact hd j g1 g3
   ·rw [show j = k by omega]; exact q.2
  ·rw [endP_is h1 h2 hd]
   intro g1 g2
   rw [decide_eq_true g1, decide_eq_true g2] at q
   cases q
theorem c_blockEnd (p : List Line) (cl : Bool) (i : Nat) (H : AHeap) (hi : i < p.length) : ACalls Tryz.prog 175 [aProg p cl, I i] H fun r H' => r = I (endP p i) ∧ H' = H := by
 refine acalls_len (by kernel_rfl) (List.mem_cons_self ..) fun hl => ?_
 rw [List.length_map] at hl
 refine acalls_of0 Tryz.func175 rfl (by kernel_rfl) rfl rfl (awp_sound (fz := fun _ => []) (im := fun _ => false) mixed _ _ _ _ (by kernel_rfl) ?_)
 simp +contextual -dsimp -implicitDefEqProofs (maxSteps:=5000000) only [go_sem,reduceIte,reduceCtorEq,Nat.reduceEqDiff,Nat.reduceBEq,Nat.reduceAdd,Nat.reduceLeDiff,Nat.reduceMul,Nat.reduceLT,Int.reduceEq,Int.reduceLT,Int.reduceLE]
 refine aloop mixed (fz := fun _ => []) (im := fun _ => false) (by kernel_rfl) (fun m tm H' => ∃ k : Nat, m = p.length - k ∧ i < k ∧ k ≤ p.length ∧ H' = H ∧ tm 0 = aProg p cl ∧ tm 1 = I i ∧ tm 5 = I k ∧ ∀ j, i < j → j < k → (p.getD i default).depth < (p.getD j default).depth) (p.length - (i + 1)) ⟨i + 1, rfl, by omega, by omega, rfl, ?_⟩ ?_
 ·simp +contextual -dsimp -implicitDefEqProofs (maxSteps:=5000000) only [go_sem,reduceIte,reduceCtorEq,Nat.reduceEqDiff,Nat.reduceBEq,Nat.reduceAdd,Nat.reduceLeDiff,Nat.reduceMul,Nat.reduceLT,Int.reduceEq,Int.reduceLT,Int.reduceLE]
  exact ⟨I_wrap (by omega) (by omega) (by omega), fun j h1 h2 => by omega⟩
 ·rintro m tm _ ⟨k, rfl, h1, h2, rfl, t0, t1, t5, hd⟩
  simp +contextual -dsimp -implicitDefEqProofs (maxSteps:=5000000) only [go_sem,reduceIte,reduceCtorEq,Nat.reduceEqDiff,Nat.reduceBEq,Nat.reduceAdd,Nat.reduceLeDiff,Nat.reduceMul,Nat.reduceLT,Int.reduceEq,Int.reduceLT,Int.reduceLE,t0,t1,t5,hi]
  refine draw_intro [0, 0, 0, 0, 0, 0, 0, 0, 0, 0, 0, 0, 0, 0, 0, 0, 0] AHeap.none (by kernel_rfl) none_le ?_
  simp +contextual -dsimp -implicitDefEqProofs (maxSteps:=5000000) only [go_sem,reduceIte,reduceCtorEq,Nat.reduceEqDiff,Nat.reduceBEq,Nat.reduceAdd,Nat.reduceLeDiff,Nat.reduceMul,Nat.reduceLT,Int.reduceEq,Int.reduceLT,Int.reduceLE,t0,t1,t5,hi]
  refine ⟨fun q => ⟨_, by omega, k + 1, rfl, by omega, by omega, I_wrap (by omega) (by omega) (by omega), fun j g1 g2 => ?_⟩, fun q => ?_⟩
  ·rcases Nat.lt_or_ge j k with g3 | g3
   ·exact hd j g1 g3
   ·rw [show j = k by omega]; exact q.2
  ·rw [endP_is h1 h2 hd]
   intro g1 g2
   rw [decide_eq_true g1, decide_eq_true g2] at q
   cases q
theorem c_lineOpens (x : Line) (H : AHeap) : ACalls Tryz.prog 56 [.agg (rLine x)] H fun r H' => r = B (opensK x.kind) ∧ H' = H := by
 refine acalls_of0 Tryz.func56 rfl (by kernel_rfl) rfl rfl (awp_sound (fz := fun _ => []) (im := fun s => s == 1) mixed _ _ _ _ (by kernel_rfl) ?_)
 simp +contextual -dsimp -implicitDefEqProofs (maxSteps:=5000000) only [go_sem,reduceIte,reduceCtorEq,Nat.reduceEqDiff,Nat.reduceBEq,Nat.reduceAdd,Nat.reduceLeDiff,Nat.reduceMul,Nat.reduceLT,Int.reduceEq,Int.reduceLT,Int.reduceLE]
 exact (c_within _ _ _ _).det (by simp +contextual -dsimp -implicitDefEqProofs (maxSteps:=5000000) only [go_sem,reduceIte,reduceCtorEq,Nat.reduceEqDiff,Nat.reduceBEq,Nat.reduceAdd,Nat.reduceLeDiff,Nat.reduceMul,Nat.reduceLT,Int.reduceEq,Int.reduceLT,Int.reduceLE,opensK])
theorem c_lineJumps (x : Line) (H : AHeap) : ACalls Tryz.prog 139 [.agg (rLine x)] H fun r H' => r = B (jumpsK x.kind) ∧ H' = H := by
 refine acalls_of0 Tryz.func139 rfl (by kernel_rfl) rfl rfl (awp_sound (fz := fun _ => []) (im := fun s => s == 1) mixed _ _ _ _ (by kernel_rfl) ?_)
 simp +contextual -dsimp -implicitDefEqProofs (maxSteps:=5000000) only [go_sem,reduceIte,reduceCtorEq,Nat.reduceEqDiff,Nat.reduceBEq,Nat.reduceAdd,Nat.reduceLeDiff,Nat.reduceMul,Nat.reduceLT,Int.reduceEq,Int.reduceLT,Int.reduceLE]
 exact (c_within _ _ _ _).det (by simp +contextual -dsimp -implicitDefEqProofs (maxSteps:=5000000) only [go_sem,reduceIte,reduceCtorEq,Nat.reduceEqDiff,Nat.reduceBEq,Nat.reduceAdd,Nat.reduceLeDiff,Nat.reduceMul,Nat.reduceLT,Int.reduceEq,Int.reduceLT,Int.reduceLE,jumpsK])
theorem c_opens (k : Int) (H : AHeap) : ACalls Tryz.prog 142 [I k] H fun r H' => r = B (opensK k) ∧ H' = H := by
 refine acalls_of0 Tryz.func142 rfl (by kernel_rfl) rfl rfl (awp_sound (fz := fun _ => []) (im := fun _ => false) mixed _ _ _ _ (by kernel_rfl) ?_)
 simp +contextual -dsimp -implicitDefEqProofs (maxSteps:=5000000) only [go_sem,reduceIte,reduceCtorEq,Nat.reduceEqDiff,Nat.reduceBEq,Nat.reduceAdd,Nat.reduceLeDiff,Nat.reduceMul,Nat.reduceLT,Int.reduceEq,Int.reduceLT,Int.reduceLE]
 exact (c_inRange _ _ _ _).det (by simp +contextual -dsimp -implicitDefEqProofs (maxSteps:=5000000) only [go_sem,reduceIte,reduceCtorEq,Nat.reduceEqDiff,Nat.reduceBEq,Nat.reduceAdd,Nat.reduceLeDiff,Nat.reduceMul,Nat.reduceLT,Int.reduceEq,Int.reduceLT,Int.reduceLE,opensK])
theorem c_follows (k : Int) (H : AHeap) : ACalls Tryz.prog 145 [I k] H fun r H' => r = B (followsK k) ∧ H' = H := by
 refine acalls_of0 Tryz.func145 rfl (by kernel_rfl) rfl rfl (awp_sound (fz := fun _ => []) (im := fun _ => false) mixed _ _ _ _ (by kernel_rfl) ?_)
 simp +contextual -dsimp -implicitDefEqProofs (maxSteps:=5000000) only [go_sem,reduceIte,reduceCtorEq,Nat.reduceEqDiff,Nat.reduceBEq,Nat.reduceAdd,Nat.reduceLeDiff,Nat.reduceMul,Nat.reduceLT,Int.reduceEq,Int.reduceLT,Int.reduceLE]
 exact (c_inRange _ _ _ _).det (by simp +contextual -dsimp -implicitDefEqProofs (maxSteps:=5000000) only [go_sem,reduceIte,reduceCtorEq,Nat.reduceEqDiff,Nat.reduceBEq,Nat.reduceAdd,Nat.reduceLeDiff,Nat.reduceMul,Nat.reduceLT,Int.reduceEq,Int.reduceLT,Int.reduceLE,followsK])
theorem c_argued (t : List Class) (cl : Bool) (x : Line) (H : AHeap) : ACalls Tryz.prog 54 [.agg (rLine x), aTree t cl] H fun r H' => r = B (numOk t x.kind x.a x.b) ∧ H' = H := by
 refine acalls_of0 Tryz.func54 rfl (by kernel_rfl) rfl rfl (awp_sound (fz := fun _ => []) (im := fun s => s == 2 || s == 3) mixed _ _ _ _ (by kernel_rfl) ?_)
 have fin0 : ∀ (a b c d : Bool), (a && (b && c)) = ((a && b) && c) := fun a b c d => by cases a <;> rfl
 by_cases k1 : x.kind = 1
 ·simp +contextual -dsimp -implicitDefEqProofs (maxSteps:=5000000) only [go_sem,reduceIte,reduceCtorEq,Nat.reduceEqDiff,Nat.reduceBEq,Nat.reduceAdd,Nat.reduceLeDiff,Nat.reduceMul,Nat.reduceLT,Int.reduceEq,Int.reduceLT,Int.reduceLE,k1]
  refine (c_codeOk _ _).det ?_
  cases e1 : inR x.a 0 99 <;> simp +contextual -dsimp -implicitDefEqProofs (maxSteps:=5000000) only [go_sem,reduceIte,reduceCtorEq,Nat.reduceEqDiff,Nat.reduceBEq,Nat.reduceAdd,Nat.reduceLeDiff,Nat.reduceMul,Nat.reduceLT,Int.reduceEq,Int.reduceLT,Int.reduceLE,k1,e1,numOk]
 by_cases k4 : x.kind = 4
 ·simp +contextual -dsimp -implicitDefEqProofs (maxSteps:=5000000) only [go_sem,reduceIte,reduceCtorEq,Nat.reduceEqDiff,Nat.reduceBEq,Nat.reduceAdd,Nat.reduceLeDiff,Nat.reduceMul,Nat.reduceLT,Int.reduceEq,Int.reduceLT,Int.reduceLE,k4]
  refine (c_codeOk _ _).det ?_
  cases e1 : inR x.a 0 99 <;> simp +contextual -dsimp -implicitDefEqProofs (maxSteps:=5000000) only [go_sem,reduceIte,reduceCtorEq,Nat.reduceEqDiff,Nat.reduceBEq,Nat.reduceAdd,Nat.reduceLeDiff,Nat.reduceMul,Nat.reduceLT,Int.reduceEq,Int.reduceLT,Int.reduceLE,k4,e1,numOk]
 by_cases k2 : x.kind = 2
 ·simp +contextual -dsimp -implicitDefEqProofs (maxSteps:=5000000) only [go_sem,reduceIte,reduceCtorEq,Nat.reduceEqDiff,Nat.reduceBEq,Nat.reduceAdd,Nat.reduceLeDiff,Nat.reduceMul,Nat.reduceLT,Int.reduceEq,Int.reduceLT,Int.reduceLE,k2]
  refine (c_has t cl _ _).det ?_
  cases e1 : hasF t x.a
  ·simp +contextual -dsimp -implicitDefEqProofs (maxSteps:=5000000) only [go_sem,reduceIte,reduceCtorEq,Nat.reduceEqDiff,Nat.reduceBEq,Nat.reduceAdd,Nat.reduceLeDiff,Nat.reduceMul,Nat.reduceLT,Int.reduceEq,Int.reduceLT,Int.reduceLE,k2,e1,numOk]
  ·simp +contextual -dsimp -implicitDefEqProofs (maxSteps:=5000000) only [go_sem,reduceIte,reduceCtorEq,Nat.reduceEqDiff,Nat.reduceBEq,Nat.reduceAdd,Nat.reduceLeDiff,Nat.reduceMul,Nat.reduceLT,Int.reduceEq,Int.reduceLT,Int.reduceLE,k2,e1]
   refine (c_codeOk _ _).det ?_
   simp +contextual -dsimp -implicitDefEqProofs (maxSteps:=5000000) only [go_sem,reduceIte,reduceCtorEq,Nat.reduceEqDiff,Nat.reduceBEq,Nat.reduceAdd,Nat.reduceLeDiff,Nat.reduceMul,Nat.reduceLT,Int.reduceEq,Int.reduceLT,Int.reduceLE,k2,e1,numOk]
 by_cases k8 : x.kind = 8
 ·simp +contextual -dsimp -implicitDefEqProofs (maxSteps:=5000000) only [go_sem,reduceIte,reduceCtorEq,Nat.reduceEqDiff,Nat.reduceBEq,Nat.reduceAdd,Nat.reduceLeDiff,Nat.reduceMul,Nat.reduceLT,Int.reduceEq,Int.reduceLT,Int.reduceLE,k8]
  refine (c_has t cl _ _).det ?_
  cases e1 : hasF t x.a <;> simp +contextual -dsimp -implicitDefEqProofs (maxSteps:=5000000) only [go_sem,reduceIte,reduceCtorEq,Nat.reduceEqDiff,Nat.reduceBEq,Nat.reduceAdd,Nat.reduceLeDiff,Nat.reduceMul,Nat.reduceLT,Int.reduceEq,Int.reduceLT,Int.reduceLE,k8,e1,numOk]
 by_cases k11 : x.kind = 11
 ·simp +contextual -dsimp -implicitDefEqProofs (maxSteps:=5000000) only [go_sem,reduceIte,reduceCtorEq,Nat.reduceEqDiff,Nat.reduceBEq,Nat.reduceAdd,Nat.reduceLeDiff,Nat.reduceMul,Nat.reduceLT,Int.reduceEq,Int.reduceLT,Int.reduceLE,k11]
  refine (c_within _ _ _ _).det ?_
  cases e1 : inR x.a 0 9
  ·simp +contextual -dsimp -implicitDefEqProofs (maxSteps:=5000000) only [go_sem,reduceIte,reduceCtorEq,Nat.reduceEqDiff,Nat.reduceBEq,Nat.reduceAdd,Nat.reduceLeDiff,Nat.reduceMul,Nat.reduceLT,Int.reduceEq,Int.reduceLT,Int.reduceLE,k11,e1,numOk]
  ·simp +contextual -dsimp -implicitDefEqProofs (maxSteps:=5000000) only [go_sem,reduceIte,reduceCtorEq,Nat.reduceEqDiff,Nat.reduceBEq,Nat.reduceAdd,Nat.reduceLeDiff,Nat.reduceMul,Nat.reduceLT,Int.reduceEq,Int.reduceLT,Int.reduceLE,k11,e1]
   refine (c_within _ _ _ _).det ?_
   simp +contextual -dsimp -implicitDefEqProofs (maxSteps:=5000000) only [go_sem,reduceIte,reduceCtorEq,Nat.reduceEqDiff,Nat.reduceBEq,Nat.reduceAdd,Nat.reduceLeDiff,Nat.reduceMul,Nat.reduceLT,Int.reduceEq,Int.reduceLT,Int.reduceLE,k11,e1,numOk]
 by_cases k12 : x.kind = 12
 ·simp +contextual -dsimp -implicitDefEqProofs (maxSteps:=5000000) only [go_sem,reduceIte,reduceCtorEq,Nat.reduceEqDiff,Nat.reduceBEq,Nat.reduceAdd,Nat.reduceLeDiff,Nat.reduceMul,Nat.reduceLT,Int.reduceEq,Int.reduceLT,Int.reduceLE,k12]
  refine (c_within _ _ _ _).det ?_
  cases e1 : inR x.a 0 3 <;> simp +contextual -dsimp -implicitDefEqProofs (maxSteps:=5000000) only [go_sem,reduceIte,reduceCtorEq,Nat.reduceEqDiff,Nat.reduceBEq,Nat.reduceAdd,Nat.reduceLeDiff,Nat.reduceMul,Nat.reduceLT,Int.reduceEq,Int.reduceLT,Int.reduceLE,k12,e1,numOk]
 simp +contextual -dsimp -implicitDefEqProofs (maxSteps:=5000000) only [go_sem,reduceIte,reduceCtorEq,Nat.reduceEqDiff,Nat.reduceBEq,Nat.reduceAdd,Nat.reduceLeDiff,Nat.reduceMul,Nat.reduceLT,Int.reduceEq,Int.reduceLT,Int.reduceLE,k1,k2,k4,k8,k11,k12]
 refine (c_within _ _ _ _).det ?_
 cases e1 : inR x.kind 0 12 <;> simp +contextual -dsimp -implicitDefEqProofs (maxSteps:=5000000) only [go_sem,reduceIte,reduceCtorEq,Nat.reduceEqDiff,Nat.reduceBEq,Nat.reduceAdd,Nat.reduceLeDiff,Nat.reduceMul,Nat.reduceLT,Int.reduceEq,Int.reduceLT,Int.reduceLE,k1,k2,k4,k8,k11,k12,e1,numOk,or_self]
theorem c_validNumbers (t : List Class) (cl : Bool) (x : Line) (H : AHeap) : ACalls Tryz.prog 140 [aTree t cl, .agg (rLine x)] H fun r H' => r = B (numOk t x.kind x.a x.b) ∧ H' = H := by
 refine acalls_of0 Tryz.func140 rfl (by kernel_rfl) rfl rfl (awp_sound (fz := fun _ => []) (im := fun s => s == 2 || s == 3) mixed _ _ _ _ (by kernel_rfl) ?_)
 have fin0 : ∀ (a b c d : Bool), (a && (b && c)) = ((a && b) && c) := fun a b c d => by cases a <;> rfl
 by_cases k1 : x.kind = 1
 ·simp +contextual -dsimp -implicitDefEqProofs (maxSteps:=5000000) only [go_sem,reduceIte,reduceCtorEq,Nat.reduceEqDiff,Nat.reduceBEq,Nat.reduceAdd,Nat.reduceLeDiff,Nat.reduceMul,Nat.reduceLT,Int.reduceEq,Int.reduceLT,Int.reduceLE,k1]
  refine (c_inRange _ _ _ _).det ?_
  cases e1 : inR x.a 0 99 <;> simp +contextual -dsimp -implicitDefEqProofs (maxSteps:=5000000) only [go_sem,reduceIte,reduceCtorEq,Nat.reduceEqDiff,Nat.reduceBEq,Nat.reduceAdd,Nat.reduceLeDiff,Nat.reduceMul,Nat.reduceLT,Int.reduceEq,Int.reduceLT,Int.reduceLE,k1,e1,numOk]
 by_cases k4 : x.kind = 4
 ·simp +contextual -dsimp -implicitDefEqProofs (maxSteps:=5000000) only [go_sem,reduceIte,reduceCtorEq,Nat.reduceEqDiff,Nat.reduceBEq,Nat.reduceAdd,Nat.reduceLeDiff,Nat.reduceMul,Nat.reduceLT,Int.reduceEq,Int.reduceLT,Int.reduceLE,k4]
  refine (c_inRange _ _ _ _).det ?_
  cases e1 : inR x.a 0 99 <;> simp +contextual -dsimp -implicitDefEqProofs (maxSteps:=5000000) only [go_sem,reduceIte,reduceCtorEq,Nat.reduceEqDiff,Nat.reduceBEq,Nat.reduceAdd,Nat.reduceLeDiff,Nat.reduceMul,Nat.reduceLT,Int.reduceEq,Int.reduceLT,Int.reduceLE,k4,e1,numOk]
 by_cases k2 : x.kind = 2
 ·simp +contextual -dsimp -implicitDefEqProofs (maxSteps:=5000000) only [go_sem,reduceIte,reduceCtorEq,Nat.reduceEqDiff,Nat.reduceBEq,Nat.reduceAdd,Nat.reduceLeDiff,Nat.reduceMul,Nat.reduceLT,Int.reduceEq,Int.reduceLT,Int.reduceLE,k2]
  refine (c_hasClass t cl _ _).det ?_
  cases e1 : hasF t x.a
  ·simp +contextual -dsimp -implicitDefEqProofs (maxSteps:=5000000) only [go_sem,reduceIte,reduceCtorEq,Nat.reduceEqDiff,Nat.reduceBEq,Nat.reduceAdd,Nat.reduceLeDiff,Nat.reduceMul,Nat.reduceLT,Int.reduceEq,Int.reduceLT,Int.reduceLE,k2,e1,numOk]
  ·simp +contextual -dsimp -implicitDefEqProofs (maxSteps:=5000000) only [go_sem,reduceIte,reduceCtorEq,Nat.reduceEqDiff,Nat.reduceBEq,Nat.reduceAdd,Nat.reduceLeDiff,Nat.reduceMul,Nat.reduceLT,Int.reduceEq,Int.reduceLT,Int.reduceLE,k2,e1]
   refine (c_inRange _ _ _ _).det ?_
   simp +contextual -dsimp -implicitDefEqProofs (maxSteps:=5000000) only [go_sem,reduceIte,reduceCtorEq,Nat.reduceEqDiff,Nat.reduceBEq,Nat.reduceAdd,Nat.reduceLeDiff,Nat.reduceMul,Nat.reduceLT,Int.reduceEq,Int.reduceLT,Int.reduceLE,k2,e1,numOk]
 by_cases k8 : x.kind = 8
 ·simp +contextual -dsimp -implicitDefEqProofs (maxSteps:=5000000) only [go_sem,reduceIte,reduceCtorEq,Nat.reduceEqDiff,Nat.reduceBEq,Nat.reduceAdd,Nat.reduceLeDiff,Nat.reduceMul,Nat.reduceLT,Int.reduceEq,Int.reduceLT,Int.reduceLE,k8]
  refine (c_hasClass t cl _ _).det ?_
  cases e1 : hasF t x.a <;> simp +contextual -dsimp -implicitDefEqProofs (maxSteps:=5000000) only [go_sem,reduceIte,reduceCtorEq,Nat.reduceEqDiff,Nat.reduceBEq,Nat.reduceAdd,Nat.reduceLeDiff,Nat.reduceMul,Nat.reduceLT,Int.reduceEq,Int.reduceLT,Int.reduceLE,k8,e1,numOk]
 by_cases k11 : x.kind = 11
 ·simp +contextual -dsimp -implicitDefEqProofs (maxSteps:=5000000) only [go_sem,reduceIte,reduceCtorEq,Nat.reduceEqDiff,Nat.reduceBEq,Nat.reduceAdd,Nat.reduceLeDiff,Nat.reduceMul,Nat.reduceLT,Int.reduceEq,Int.reduceLT,Int.reduceLE,k11]
  refine (c_inRange _ _ _ _).det ?_
  cases e1 : inR x.a 0 9
  ·simp +contextual -dsimp -implicitDefEqProofs (maxSteps:=5000000) only [go_sem,reduceIte,reduceCtorEq,Nat.reduceEqDiff,Nat.reduceBEq,Nat.reduceAdd,Nat.reduceLeDiff,Nat.reduceMul,Nat.reduceLT,Int.reduceEq,Int.reduceLT,Int.reduceLE,k11,e1,numOk]
  ·simp +contextual -dsimp -implicitDefEqProofs (maxSteps:=5000000) only [go_sem,reduceIte,reduceCtorEq,Nat.reduceEqDiff,Nat.reduceBEq,Nat.reduceAdd,Nat.reduceLeDiff,Nat.reduceMul,Nat.reduceLT,Int.reduceEq,Int.reduceLT,Int.reduceLE,k11,e1]
   refine (c_inRange _ _ _ _).det ?_
   simp +contextual -dsimp -implicitDefEqProofs (maxSteps:=5000000) only [go_sem,reduceIte,reduceCtorEq,Nat.reduceEqDiff,Nat.reduceBEq,Nat.reduceAdd,Nat.reduceLeDiff,Nat.reduceMul,Nat.reduceLT,Int.reduceEq,Int.reduceLT,Int.reduceLE,k11,e1,numOk]
 by_cases k12 : x.kind = 12
 ·simp +contextual -dsimp -implicitDefEqProofs (maxSteps:=5000000) only [go_sem,reduceIte,reduceCtorEq,Nat.reduceEqDiff,Nat.reduceBEq,Nat.reduceAdd,Nat.reduceLeDiff,Nat.reduceMul,Nat.reduceLT,Int.reduceEq,Int.reduceLT,Int.reduceLE,k12]
  refine (c_inRange _ _ _ _).det ?_
  cases e1 : inR x.a 0 3 <;> simp +contextual -dsimp -implicitDefEqProofs (maxSteps:=5000000) only [go_sem,reduceIte,reduceCtorEq,Nat.reduceEqDiff,Nat.reduceBEq,Nat.reduceAdd,Nat.reduceLeDiff,Nat.reduceMul,Nat.reduceLT,Int.reduceEq,Int.reduceLT,Int.reduceLE,k12,e1,numOk]
 simp +contextual -dsimp -implicitDefEqProofs (maxSteps:=5000000) only [go_sem,reduceIte,reduceCtorEq,Nat.reduceEqDiff,Nat.reduceBEq,Nat.reduceAdd,Nat.reduceLeDiff,Nat.reduceMul,Nat.reduceLT,Int.reduceEq,Int.reduceLT,Int.reduceLE,k1,k2,k4,k8,k11,k12]
 refine (c_inRange _ _ _ _).det ?_
 have e : inR x.kind 0 10 = inR x.kind 0 12 := by
  unfold inR
  rw [Bool.eq_iff_iff]
  simp only [Bool.and_eq_true,decide_eq_true_eq]
  omega
 rw [e]
 cases e1 : inR x.kind 0 12 <;> simp +contextual -dsimp -implicitDefEqProofs (maxSteps:=5000000) only [go_sem,reduceIte,reduceCtorEq,Nat.reduceEqDiff,Nat.reduceBEq,Nat.reduceAdd,Nat.reduceLeDiff,Nat.reduceMul,Nat.reduceLT,Int.reduceEq,Int.reduceLT,Int.reduceLE,k1,k2,k4,k8,k11,k12,e1,numOk,or_self]
end
section
open Go Go.Sim
set_option maxRecDepth 100000

theorem toI_len (l : List Nat) : (toI l).length = l.length := by simp [toI]
theorem toI_at (l : List Nat) (j : Nat) : (toI l).getD j default = ((l.getD j default : Nat) : Int) := by
 simp only [toI,List.getD_eq_getElem?_getD,List.getElem?_map]
 cases l[j]? <;> rfl
theorem toI_snoc (l : List Nat) (k : Nat) : toI l ++ [(k : Int)] = toI (l ++ [k]) := by simp [toI]
theorem toI_drop (l : List Nat) (k : Nat) : (toI l).drop k = toI (l.drop k) := by simp [toI, List.map_drop]
theorem tailP_eq {p : List Line} {d : Int} : ∀ (n m k : Nat), p.length ≤ n + k → p.length ≤ m + k → tailP p d n k = tailP p d m k
 | 0, 0, k, _, _ => rfl
 | 0, m + 1, k, h, _ => by simp only [tailP]; rw [if_neg (fun q => by omega)]
 | n + 1, 0, k, _, h => by simp only [tailP]; rw [if_neg (fun q => by omega)]
 | n + 1, m + 1, k, h1, h2 => by
  simp only [tailP]
  split
  ·have := endP_gt p k
   rw [tailP_eq n m (endP p k) (by omega) (by omega)]
  ·rfl
def tailQ (p : List Line) (d : Int) (k : Nat) : List Nat := tailP p d p.length k
theorem tailQ_step (p : List Line) (d : Int) (k : Nat) : tailQ p d k = if k < p.length ∧ (p.getD k default).depth = d ∧ followsK (p.getD k default).kind = true then k :: tailQ p d (endP p k) else [] := by
 unfold tailQ
 rw [tailP_eq p.length (p.length + 1) k (by omega) (by omega)]
 rfl
theorem chainP_tail (p : List Line) (i : Nat) : chainP p i = i :: tailQ p (p.getD i default).depth (endP p i) := rfl
theorem tailP_mem {p : List Line} {d : Int} : ∀ (n k : Nat), ∀ j ∈ tailP p d n k, j < p.length ∧ followsK (p.getD j default).kind = true
 | 0, k, j, h => by cases h
 | n + 1, k, j, h => by
  simp only [tailP] at h
  split at h
  ·rename_i c
   rcases List.mem_cons.1 h with rfl | h
   ·exact ⟨c.1, c.2.2⟩
   ·exact tailP_mem n _ j h
  ·cases h
theorem tailP_len {p : List Line} {d : Int} : ∀ (n k : Nat), (tailP p d n k).length + k ≤ p.length ∨ tailP p d n k = []
 | 0, k => .inr rfl
 | n + 1, k => by
  simp only [tailP]
  split
  ·rename_i c
   left
   have := endP_gt p k
   rcases tailP_len (p := p) (d := d) n (endP p k) with h | h
   ·simp; omega
   ·rw [h]; simp; omega
  ·exact .inr rfl
theorem chainP_mem {p : List Line} {i : Nat} (hi : i < p.length) : ∀ j ∈ chainP p i, j < p.length := by
 intro j h
 rcases List.mem_cons.1 h with rfl | h
 ·exact hi
 ·exact (tailP_mem _ _ j h).1
theorem endP_len {p : List Line} {i : Nat} (hi : i < p.length) : (chainP p i).length ≤ p.length := by
 unfold chainP
 rcases tailP_len (p := p) (d := (p.getD i default).depth) p.length (endP p i) with h | h
 ·have := endP_gt p i; simp only [List.length_cons]; omega
 ·rw [h]; simp; omega
theorem toI_app {H0 H : AHeap} {x : AV} {out : List Nat} {n : Nat} {cl : Bool} {K : AV → AHeap → Prop} {g : Tag (H, K)} (hg : Grow rI 1 3 H0 H x (toI out)) (hb : out.length ≤ 4398046511104) (k : ∀ x' H', Grow rI 1 3 H0 H' x' (toI (out ++ [n])) → K x' H') : appT Tryz.prog H 29 x (.vsl [[.lit (.int .i64 (n : Int))]] cl) K g :=
 grow_append (m := [(n : Int)]) te29 ti3 rI_len (by decide) hg (by rw [toI_len]; show (out.length + 1) * 8 ≤ _; omega) (by rw [toI_len]; show out.length + 1 ≤ _; omega) rfl fun x' H'' hg' => k x' H'' (by rw [toI_snoc] at hg'; exact hg')
theorem c_tryFrom (p : List Line) (cl : Bool) (i : Nat) (H : AHeap) (hi : i < p.length) (hp : p.length ≤ 4398046511104) : ACalls Tryz.prog 95 [aProg p cl, I i] H fun r H' => Grow rI 1 3 H H' r (toI (chainP p i)) := by
 refine acalls_len (by kernel_rfl) (List.mem_cons_self ..) fun hl => ?_
 rw [List.length_map] at hl
 refine acalls_of0 Tryz.func95 rfl (by kernel_rfl) rfl rfl (awp_sound (fz := fun _ => []) (im := fun s => s == 42) mixed _ _ _ _ (by kernel_rfl) ?_)
 simp +contextual -dsimp -implicitDefEqProofs (maxSteps:=5000000) only [go_sem,reduceIte,reduceCtorEq,Nat.reduceEqDiff,Nat.reduceBEq,Nat.reduceAdd,Nat.reduceLeDiff,Nat.reduceMul,Nat.reduceLT,Int.reduceEq,Int.reduceLT,Int.reduceLE]
 intro b5 hb5
 refine (c_endOf p cl i _ hi).det ?_
 simp +contextual -dsimp -implicitDefEqProofs (maxSteps:=5000000) only [go_sem,reduceIte,reduceCtorEq,Nat.reduceEqDiff,Nat.reduceBEq,Nat.reduceAdd,Nat.reduceLeDiff,Nat.reduceMul,Nat.reduceLT,Int.reduceEq,Int.reduceLT,Int.reduceLE]
 refine aloop mixed (fz := fun _ => []) (im := fun s => s == 8 || s == 42) (by kernel_rfl) (fun m tm H' => ∃ (k : Nat) (out : List Nat) (x : AV), m = p.length - k ∧ k ≤ p.length ∧ out.length ≤ k ∧ Grow rI 1 3 H H' x (toI out) ∧ tm 0 = aProg p cl ∧ tm 1 = I i ∧ tm 5 = x ∧ tm 6 = I k ∧ out ++ tailQ p (p.getD i default).depth k = chainP p i) (p.length - endP p i) ⟨endP p i, [i], .sl b5 1 0 1 true, rfl, endP_le hi, by have := endP_gt p i; simp; omega, .inr ⟨b5, true, hb5, rfl, rfl⟩, ?_⟩ ?_
 ·simp +contextual -dsimp -implicitDefEqProofs (maxSteps:=5000000) only [go_sem,reduceIte,reduceCtorEq,Nat.reduceEqDiff,Nat.reduceBEq,Nat.reduceAdd,Nat.reduceLeDiff,Nat.reduceMul,Nat.reduceLT,Int.reduceEq,Int.reduceLT,Int.reduceLE]
  rfl
 ·rintro m tm H' ⟨k, out, x, rfl, hk, hol, hg, t0, t1, t5, t6, he⟩
  simp +contextual -dsimp -implicitDefEqProofs (maxSteps:=5000000) only [go_sem,reduceIte,reduceCtorEq,Nat.reduceEqDiff,Nat.reduceBEq,Nat.reduceAdd,Nat.reduceLeDiff,Nat.reduceMul,Nat.reduceLT,Int.reduceEq,Int.reduceLT,Int.reduceLE,t0,t1,t5,t6,hi]
  refine draw_intro [0, 0, 0, 0, 0, 0, 0, 0, 0, 0, 0, 0, 0, 0, 0, 0, 0, 0, 0, 0, 0, 0, 0, 2, 0] AHeap.none (by kernel_rfl) none_le ?_
  simp +contextual -dsimp -implicitDefEqProofs (maxSteps:=5000000) only [go_sem,reduceIte,reduceCtorEq,Nat.reduceEqDiff,Nat.reduceBEq,Nat.reduceAdd,Nat.reduceLeDiff,Nat.reduceMul,Nat.reduceLT,Int.reduceEq,Int.reduceLT,Int.reduceLE,t0,t1,t5,t6,hi]
  rw [tailQ_step] at he
  have stop : ¬ (k < p.length ∧ (p.getD k default).depth = (p.getD i default).depth ∧ followsK (p.getD k default).kind = true) → out = chainP p i := fun q => by rw [if_neg q] at he; simpa using he
  by_cases h1 : k < p.length
  ·by_cases h2 : (p.getD k default).depth = (p.getD i default).depth
   ·simp +contextual -dsimp -implicitDefEqProofs (maxSteps:=5000000) only [go_sem,reduceIte,reduceCtorEq,Nat.reduceEqDiff,Nat.reduceBEq,Nat.reduceAdd,Nat.reduceLeDiff,Nat.reduceMul,Nat.reduceLT,Int.reduceEq,Int.reduceLT,Int.reduceLE,t0,t1,t5,t6,hi,h1,h2]
    refine (c_within _ _ _ _).det ?_
    by_cases h3 : followsK (p.getD k default).kind = true
    ·have h3' : inR (p.getD k default).kind 8 10 = true := h3
     rw [if_pos ⟨h1, h2, h3⟩] at he
     simp +contextual -dsimp -implicitDefEqProofs (maxSteps:=5000000) only [go_sem,reduceIte,reduceCtorEq,Nat.reduceEqDiff,Nat.reduceBEq,Nat.reduceAdd,Nat.reduceLeDiff,Nat.reduceMul,Nat.reduceLT,Int.reduceEq,Int.reduceLT,Int.reduceLE,t0,t1,t5,t6,hi,h1,h2,h3']
     refine toI_app hg (by omega) fun x' H'' hg' => ?_
     simp +contextual -dsimp -implicitDefEqProofs (maxSteps:=5000000) only [go_sem,reduceIte,reduceCtorEq,Nat.reduceEqDiff,Nat.reduceBEq,Nat.reduceAdd,Nat.reduceLeDiff,Nat.reduceMul,Nat.reduceLT,Int.reduceEq,Int.reduceLT,Int.reduceLE,t0,t1,t5,t6,hi,h1,h2,h3']
     refine (c_endOf p cl k _ h1).det ?_
     simp +contextual -dsimp -implicitDefEqProofs (maxSteps:=5000000) only [go_sem,reduceIte,reduceCtorEq,Nat.reduceEqDiff,Nat.reduceBEq,Nat.reduceAdd,Nat.reduceLeDiff,Nat.reduceMul,Nat.reduceLT,Int.reduceEq,Int.reduceLT,Int.reduceLE,t0,t1,t5,t6,hi,h1,h2,h3']
     have g1 := endP_gt p k
     have g2 := endP_le h1
     exact ⟨_, by omega, endP p k, out ++ [k], x', rfl, g2, by simp; omega, hg', by rw [← he]; simp⟩
    ·have h3' : inR (p.getD k default).kind 8 10 = false := by simpa [followsK] using h3
     simp +contextual -dsimp -implicitDefEqProofs (maxSteps:=5000000) only [go_sem,reduceIte,reduceCtorEq,Nat.reduceEqDiff,Nat.reduceBEq,Nat.reduceAdd,Nat.reduceLeDiff,Nat.reduceMul,Nat.reduceLT,Int.reduceEq,Int.reduceLT,Int.reduceLE,t0,t1,t5,t6,hi,h1,h2,h3']
     rw [← stop (fun q => h3 q.2.2)]; exact hg
   ·simp +contextual -dsimp -implicitDefEqProofs (maxSteps:=5000000) only [go_sem,reduceIte,reduceCtorEq,Nat.reduceEqDiff,Nat.reduceBEq,Nat.reduceAdd,Nat.reduceLeDiff,Nat.reduceMul,Nat.reduceLT,Int.reduceEq,Int.reduceLT,Int.reduceLE,t0,t1,t5,t6,hi,h1,h2]
    rw [← stop (fun q => h2 q.2.1)]; exact hg
  ·simp +contextual -dsimp -implicitDefEqProofs (maxSteps:=5000000) only [go_sem,reduceIte,reduceCtorEq,Nat.reduceEqDiff,Nat.reduceBEq,Nat.reduceAdd,Nat.reduceLeDiff,Nat.reduceMul,Nat.reduceLT,Int.reduceEq,Int.reduceLT,Int.reduceLE,t0,t1,t5,t6,hi,h1]
   rw [← stop (fun q => h1 q.1)]; exact hg
def sameP (p : List Line) (i : Nat) : Nat := if endP p i < p.length ∧ (p.getD (endP p i) default).depth = (p.getD i default).depth then endP p i else p.length
theorem c_sameNext (p : List Line) (cl : Bool) (i : Nat) (H : AHeap) (hi : i < p.length) : ACalls Tryz.prog 188 [aProg p cl, I i] H fun r H' => r = I (sameP p i) ∧ H' = H := by
 refine acalls_len (by kernel_rfl) (List.mem_cons_self ..) fun hl => ?_
 rw [List.length_map] at hl
 refine acalls_of0 Tryz.func188 rfl (by kernel_rfl) rfl rfl (awp_sound (fz := fun _ => []) (im := fun _ => false) mixed _ _ _ _ (by kernel_rfl) ?_)
 simp +contextual -dsimp -implicitDefEqProofs (maxSteps:=5000000) only [go_sem,reduceIte,reduceCtorEq,Nat.reduceEqDiff,Nat.reduceBEq,Nat.reduceAdd,Nat.reduceLeDiff,Nat.reduceMul,Nat.reduceLT,Int.reduceEq,Int.reduceLT,Int.reduceLE]
 refine (c_blockEnd p cl i _ hi).det ?_
 simp +contextual -dsimp -implicitDefEqProofs (maxSteps:=5000000) only [go_sem,reduceIte,reduceCtorEq,Nat.reduceEqDiff,Nat.reduceBEq,Nat.reduceAdd,Nat.reduceLeDiff,Nat.reduceMul,Nat.reduceLT,Int.reduceEq,Int.reduceLT,Int.reduceLE]
 refine draw_intro [0, 0, 0, 0, 0, 0, 0, 0, 0, 0, 0, 0, 0, 0, 0, 0, 0] AHeap.none (by kernel_rfl) none_le ?_
 by_cases h1 : endP p i < p.length
 ·by_cases h2 : (p.getD (endP p i) default).depth = (p.getD i default).depth
  ·simp +contextual -dsimp -implicitDefEqProofs (maxSteps:=5000000) only [go_sem,reduceIte,reduceCtorEq,Nat.reduceEqDiff,Nat.reduceBEq,Nat.reduceAdd,Nat.reduceLeDiff,Nat.reduceMul,Nat.reduceLT,Int.reduceEq,Int.reduceLT,Int.reduceLE,hi,h1,h2,sameP,and_self,if_true]
  ·simp +contextual -dsimp -implicitDefEqProofs (maxSteps:=5000000) only [go_sem,reduceIte,reduceCtorEq,Nat.reduceEqDiff,Nat.reduceBEq,Nat.reduceAdd,Nat.reduceLeDiff,Nat.reduceMul,Nat.reduceLT,Int.reduceEq,Int.reduceLT,Int.reduceLE,hi,h1,h2,sameP,and_false,if_false]
 ·simp +contextual -dsimp -implicitDefEqProofs (maxSteps:=5000000) only [go_sem,reduceIte,reduceCtorEq,Nat.reduceEqDiff,Nat.reduceBEq,Nat.reduceAdd,Nat.reduceLeDiff,Nat.reduceMul,Nat.reduceLT,Int.reduceEq,Int.reduceLT,Int.reduceLE,hi,h1,sameP,false_and,if_false]
def tailS (p : List Line) (k : Nat) : List Nat := if k < p.length ∧ followsK (p.getD k default).kind = true then tailQ p (p.getD k default).depth k else []
theorem tailS_same (p : List Line) (i : Nat) : tailS p (sameP p i) = tailQ p (p.getD i default).depth (endP p i) := by
 rw [tailQ_step]
 unfold sameP
 by_cases h : endP p i < p.length ∧ (p.getD (endP p i) default).depth = (p.getD i default).depth
 ·rw [if_pos h]
  unfold tailS
  by_cases h3 : followsK (p.getD (endP p i) default).kind = true
  ·rw [if_pos ⟨h.1, h3⟩, if_pos ⟨h.1, h.2, h3⟩, tailQ_step, if_pos ⟨h.1, rfl, h3⟩, h.2]
  ·rw [if_neg (fun q => h3 q.2), if_neg (fun q => h3 q.2.2)]
 ·rw [if_neg h, if_neg (fun q => h ⟨q.1, q.2.1⟩)]
  unfold tailS
  rw [if_neg (fun q => by omega)]
theorem tailS_step {p : List Line} {k : Nat} (h1 : k < p.length) (h2 : followsK (p.getD k default).kind = true) : tailS p k = k :: tailS p (sameP p k) := by
 rw [tailS_same]
 unfold tailS
 rw [if_pos ⟨h1, h2⟩, tailQ_step, if_pos ⟨h1, rfl, h2⟩]
theorem sameP_gt {p : List Line} {i : Nat} (h : i < p.length) : i < sameP p i ∧ sameP p i ≤ p.length := by
 have := endP_gt p i
 unfold sameP; split <;> omega
theorem c_chainOf (p : List Line) (cl : Bool) (i : Nat) (H : AHeap) (hi : i < p.length) (hp : p.length ≤ 4398046511104) : ACalls Tryz.prog 174 [aProg p cl, I i] H fun r H' => Grow rI 1 3 H H' r (toI (chainP p i)) := by
 refine acalls_len (by kernel_rfl) (List.mem_cons_self ..) fun hl => ?_
 rw [List.length_map] at hl
 refine acalls_of0 Tryz.func174 rfl (by kernel_rfl) rfl rfl (awp_sound (fz := fun _ => []) (im := fun s => s == 29) mixed _ _ _ _ (by kernel_rfl) ?_)
 simp +contextual -dsimp -implicitDefEqProofs (maxSteps:=5000000) only [go_sem,reduceIte,reduceCtorEq,Nat.reduceEqDiff,Nat.reduceBEq,Nat.reduceAdd,Nat.reduceLeDiff,Nat.reduceMul,Nat.reduceLT,Int.reduceEq,Int.reduceLT,Int.reduceLE]
 intro b5 hb5
 refine (c_sameNext p cl i _ hi).det ?_
 simp +contextual -dsimp -implicitDefEqProofs (maxSteps:=5000000) only [go_sem,reduceIte,reduceCtorEq,Nat.reduceEqDiff,Nat.reduceBEq,Nat.reduceAdd,Nat.reduceLeDiff,Nat.reduceMul,Nat.reduceLT,Int.reduceEq,Int.reduceLT,Int.reduceLE]
 refine aloop mixed (fz := fun _ => []) (im := fun s => s == 8 || s == 29) (by kernel_rfl) (fun m tm H' => ∃ (k : Nat) (out : List Nat) (x : AV), m = p.length - k ∧ k ≤ p.length ∧ out.length ≤ k ∧ Grow rI 1 3 H H' x (toI out) ∧ tm 0 = aProg p cl ∧ tm 5 = x ∧ tm 6 = I k ∧ out ++ tailS p k = chainP p i) (p.length - sameP p i) ⟨sameP p i, [i], .sl b5 1 0 1 true, rfl, (sameP_gt hi).2, by have := (sameP_gt hi).1; simp; omega, .inr ⟨b5, true, hb5, rfl, rfl⟩, ?_⟩ ?_
 ·simp +contextual -dsimp -implicitDefEqProofs (maxSteps:=5000000) only [go_sem,reduceIte,reduceCtorEq,Nat.reduceEqDiff,Nat.reduceBEq,Nat.reduceAdd,Nat.reduceLeDiff,Nat.reduceMul,Nat.reduceLT,Int.reduceEq,Int.reduceLT,Int.reduceLE,tailS_same,chainP_tail]
 ·rintro m tm H' ⟨k, out, x, rfl, hk, hol, hg, t0, t5, t6, he⟩
  simp +contextual -dsimp -implicitDefEqProofs (maxSteps:=5000000) only [go_sem,reduceIte,reduceCtorEq,Nat.reduceEqDiff,Nat.reduceBEq,Nat.reduceAdd,Nat.reduceLeDiff,Nat.reduceMul,Nat.reduceLT,Int.reduceEq,Int.reduceLT,Int.reduceLE,t0,t5,t6,hi]
  have stop : ¬ (k < p.length ∧ followsK (p.getD k default).kind = true) → out = chainP p i := fun q => by unfold tailS at he; rw [if_neg q] at he; simpa using he
  by_cases h1 : k < p.length
  ·simp +contextual -dsimp -implicitDefEqProofs (maxSteps:=5000000) only [go_sem,reduceIte,reduceCtorEq,Nat.reduceEqDiff,Nat.reduceBEq,Nat.reduceAdd,Nat.reduceLeDiff,Nat.reduceMul,Nat.reduceLT,Int.reduceEq,Int.reduceLT,Int.reduceLE,t0,t5,t6,hi,h1]
   refine (c_follows _ _).det ?_
   by_cases h3 : followsK (p.getD k default).kind = true
   ·rw [tailS_step h1 h3] at he
    simp +contextual -dsimp -implicitDefEqProofs (maxSteps:=5000000) only [go_sem,reduceIte,reduceCtorEq,Nat.reduceEqDiff,Nat.reduceBEq,Nat.reduceAdd,Nat.reduceLeDiff,Nat.reduceMul,Nat.reduceLT,Int.reduceEq,Int.reduceLT,Int.reduceLE,t0,t5,t6,hi,h1,h3]
    refine toI_app hg (by omega) fun x' H'' hg' => ?_
    simp +contextual -dsimp -implicitDefEqProofs (maxSteps:=5000000) only [go_sem,reduceIte,reduceCtorEq,Nat.reduceEqDiff,Nat.reduceBEq,Nat.reduceAdd,Nat.reduceLeDiff,Nat.reduceMul,Nat.reduceLT,Int.reduceEq,Int.reduceLT,Int.reduceLE,t0,t5,t6,hi,h1,h3]
    refine (c_sameNext p cl k _ h1).det ?_
    simp +contextual -dsimp -implicitDefEqProofs (maxSteps:=5000000) only [go_sem,reduceIte,reduceCtorEq,Nat.reduceEqDiff,Nat.reduceBEq,Nat.reduceAdd,Nat.reduceLeDiff,Nat.reduceMul,Nat.reduceLT,Int.reduceEq,Int.reduceLT,Int.reduceLE,t0,t5,t6,hi,h1,h3]
    have g1 := sameP_gt h1
    exact ⟨_, by omega, sameP p k, out ++ [k], x', rfl, g1.2, by simp; omega, hg', by rw [← he]; simp⟩
   ·have h3' : followsK (p.getD k default).kind = false := by simpa using h3
    simp +contextual -dsimp -implicitDefEqProofs (maxSteps:=5000000) only [go_sem,reduceIte,reduceCtorEq,Nat.reduceEqDiff,Nat.reduceBEq,Nat.reduceAdd,Nat.reduceLeDiff,Nat.reduceMul,Nat.reduceLT,Int.reduceEq,Int.reduceLT,Int.reduceLE,t0,t5,t6,hi,h1,h3']
    rw [← stop (fun q => h3 q.2)]; exact hg
  ·simp +contextual -dsimp -implicitDefEqProofs (maxSteps:=5000000) only [go_sem,reduceIte,reduceCtorEq,Nat.reduceEqDiff,Nat.reduceBEq,Nat.reduceAdd,Nat.reduceLeDiff,Nat.reduceMul,Nat.reduceLT,Int.reduceEq,Int.reduceLT,Int.reduceLE,t0,t5,t6,hi,h1]
   rw [← stop (fun q => h1 q.1)]; exact hg
theorem sibN_len : ∀ (f : Fo) (i : Nat), (sibN f i).length ≤ f.size
 | .nil, i => Nat.le_refl _
 | .node k a b kids rest, i => by have := sibN_len rest (i + 1 + kids.size); simp only [sibN,Fo.size,List.length_cons]; omega
theorem c_siblings (p : List Line) (cl : Bool) (f : Fo) (d : Int) (i : Nat) (H : AHeap) (ha : At p i d f) (hp : p.length ≤ 4398046511104) : ACalls Tryz.prog 106 [aProg p cl, I i, I (i + f.size : Nat)] H fun r H' => Grow rI 1 3 H H' r (toI (sibN f i)) := by
 have hlen := ha.len
 refine acalls_len (by kernel_rfl) (List.mem_cons_self ..) fun hl => ?_
 rw [List.length_map] at hl
 refine acalls_of0 Tryz.func106 rfl (by kernel_rfl) rfl rfl (awp_sound (fz := fun _ => []) (im := fun s => s == 9 || s == 19) mixed _ _ _ _ (by kernel_rfl) ?_)
 simp +contextual -dsimp -implicitDefEqProofs (maxSteps:=5000000) only [go_sem,reduceIte,reduceCtorEq,Nat.reduceEqDiff,Nat.reduceBEq,Nat.reduceAdd,Nat.reduceLeDiff,Nat.reduceMul,Nat.reduceLT,Int.reduceEq,Int.reduceLT,Int.reduceLE]
 refine aloop mixed (fz := fun _ => []) (im := fun s => s == 9 || s == 19) (by kernel_rfl) (fun m tm H' => ∃ (k : Nat) (g : Fo) (out : List Nat) (x : AV), m = g.size ∧ At p k d g ∧ k + g.size = i + f.size ∧ out.length ≤ k ∧ Grow rI 1 3 H H' x (toI out) ∧ tm 0 = aProg p cl ∧ tm 2 = I (i + f.size : Nat) ∧ tm 7 = x ∧ tm 8 = I k ∧ out ++ sibN g k = sibN f i) f.size ⟨i, f, [], _, rfl, ha, rfl, by simp, grow_nil, ?_⟩ ?_
 ·simp +contextual -dsimp -implicitDefEqProofs (maxSteps:=5000000) only [go_sem,reduceIte,reduceCtorEq,Nat.reduceEqDiff,Nat.reduceBEq,Nat.reduceAdd,Nat.reduceLeDiff,Nat.reduceMul,Nat.reduceLT,Int.reduceEq,Int.reduceLT,Int.reduceLE]
 ·rintro m tm H' ⟨k, g, out, x, rfl, hk, hkg, hol, hg, t0, t2, t7, t8, he⟩
  cases g with
  | nil =>
   have h1 : ¬ k < i + f.size := by simp only [Fo.size] at hkg; omega
   simp +contextual -dsimp -implicitDefEqProofs (maxSteps:=5000000) only [go_sem,reduceIte,reduceCtorEq,Nat.reduceEqDiff,Nat.reduceBEq,Nat.reduceAdd,Nat.reduceLeDiff,Nat.reduceMul,Nat.reduceLT,Int.reduceEq,Int.reduceLT,Int.reduceLE,t0,t2,t7,t8,h1]
   simp only [sibN,List.append_nil] at he
   rw [← he]
   exact hg
  | node ki a b kids rest =>
   have hh := hk.head.1
   have hr := hk.rest
   have hb : k + 1 + kids.size + rest.size = i + f.size := by simp only [Fo.size] at hkg; omega
   have h1 : k < i + f.size := by omega
   simp +contextual -dsimp -implicitDefEqProofs (maxSteps:=5000000) only [go_sem,reduceIte,reduceCtorEq,Nat.reduceEqDiff,Nat.reduceBEq,Nat.reduceAdd,Nat.reduceLeDiff,Nat.reduceMul,Nat.reduceLT,Int.reduceEq,Int.reduceLT,Int.reduceLE,t0,t2,t7,t8,h1]
   refine toI_app hg (by omega) fun x' H'' hg' => ?_
   simp +contextual -dsimp -implicitDefEqProofs (maxSteps:=5000000) only [go_sem,reduceIte,reduceCtorEq,Nat.reduceEqDiff,Nat.reduceBEq,Nat.reduceAdd,Nat.reduceLeDiff,Nat.reduceMul,Nat.reduceLT,Int.reduceEq,Int.reduceLT,Int.reduceLE,t0,t2,t7,t8,h1]
   refine (c_endOf p cl k _ hh).det ?_
   rw [hk.endP]
   simp +contextual -dsimp -implicitDefEqProofs (maxSteps:=5000000) only [go_sem,reduceIte,reduceCtorEq,Nat.reduceEqDiff,Nat.reduceBEq,Nat.reduceAdd,Nat.reduceLeDiff,Nat.reduceMul,Nat.reduceLT,Int.reduceEq,Int.reduceLT,Int.reduceLE,t0,t2,t7,t8,h1]
   exact ⟨_, by simp only [Fo.size]; omega,k + 1 + kids.size,rest,out ++ [k],x',rfl,hr,hb,by simp; omega,hg',by rw [← he]; simp [sibN]⟩
end
section
open Go Go.Sim
set_option maxRecDepth 100000

def kindsP (p : List Line) (l : List Nat) : List Int := l.map fun k => (p.getD k default).kind
theorem kindsP_len (p : List Line) (l : List Nat) : (kindsP p l).length = l.length := by simp [kindsP]
theorem kindsP_drop {p : List Line} {l : List Nat} {k : Nat} (h : k < l.length) : (kindsP p l).drop k = (p.getD (l.getD k default) default).kind :: (kindsP p l).drop (k + 1) := by
 rw [List.drop_eq_getElem_cons (by rw [kindsP_len]; exact h)]
 congr 1
 simp [kindsP, List.getD_eq_getElem?_getD, List.getElem?_eq_getElem h]
theorem take_next {l : List Int} {k : Nat} (h : k < l.length) : l.take (k + 1) = l.take k ++ [l.getD k default] := by
 rw [List.take_succ_eq_append_getElem h, List.getD_eq_getElem?_getD, List.getElem?_eq_getElem h]; rfl
theorem kindsP_at {p : List Line} {l : List Nat} {k : Nat} (h : k < l.length) : (kindsP p l).getD k default = (p.getD (l.getD k default) default).kind := by
 simp [kindsP, List.getD_eq_getElem?_getD, List.getElem?_eq_getElem h]
def n8 (l : List Int) : Nat := (l.filter fun k => decide (k = 8)).length
theorem n8_next {l : List Int} {k : Nat} (h : k < l.length) : n8 (l.take (k + 1)) = n8 (l.take k) + if l.getD k default = 8 then 1 else 0 := by
 rw [take_next h]
 unfold n8
 rw [List.filter_append, List.length_append]
 congr 1
 by_cases q : l.getD k default = 8
 ·rw [if_pos q, List.filter_cons_of_pos (by simpa using q)]; rfl
 ·rw [if_neg q, List.filter_cons_of_neg (by simpa using q)]; rfl
theorem n8_le (l : List Int) (k : Nat) : n8 (l.take k) ≤ k := by
 unfold n8
 exact Nat.le_trans (List.length_filter_le _ _) (by rw [List.length_take]; omega)
theorem c_tryOk (p : List Line) (cl : Bool) (i : Nat) (l : List Nat) (cl' : Bool) (H : AHeap) (hm : ∀ j ∈ l, j < p.length) : ACalls Tryz.prog 107 [aProg p cl, .vsl ((toI (i :: l)).map rI) cl'] H fun r H' => r = B (tryOkF (kindsP p l)) ∧ H' = H := by
 refine acalls_len (by kernel_rfl) (List.mem_cons_of_mem _ (List.mem_cons_self ..)) fun hl => ?_
 rw [List.length_map, toI_len] at hl
 simp only [List.length_cons] at hl
 have ed : ∀ k : Nat, (toI (i :: l)).drop k = toI ((i :: l).drop k) := fun k => toI_drop _ _
 refine acalls_of0 Tryz.func107 rfl (by kernel_rfl) rfl rfl (awp_sound (fz := fun _ => []) (im := fun _ => false) mixed _ _ _ _ (by kernel_rfl) ?_)
 simp +contextual -dsimp -implicitDefEqProofs (maxSteps:=5000000) only [go_sem,reduceIte,reduceCtorEq,Nat.reduceEqDiff,Nat.reduceBEq,Nat.reduceAdd,Nat.reduceLeDiff,Nat.reduceMul,Nat.reduceLT,Int.reduceEq,Int.reduceLT,Int.reduceLE,toI_len,List.length_cons]
 refine ⟨by omega, ?_⟩
 refine aloop mixed (fz := fun _ => []) (im := fun _ => false) (by kernel_rfl) (fun m tm H' => ∃ (k : Nat) (last : Int), m = l.length - k ∧ k ≤ l.length ∧ H' = H ∧ tm 0 = aProg p cl ∧ tm 1 = .vsl ((toI (i :: l)).map rI) cl' ∧ tm 5 = I (n8 ((kindsP p l).take k)) ∧ tm 6 = I last ∧ tm 11 = .vsl ((toI l).map rI) cl' ∧ tm 12 = I l.length ∧ tm 13 = I k ∧ tryG 7 (kindsP p l) = tryG last ((kindsP p l).drop k)) l.length ⟨0, 7, ?_⟩ ?_
 ·simp +contextual -dsimp -implicitDefEqProofs (maxSteps:=5000000) only [go_sem,reduceIte,reduceCtorEq,Nat.reduceEqDiff,Nat.reduceBEq,Nat.reduceAdd,Nat.reduceLeDiff,Nat.reduceMul,Nat.reduceLT,Int.reduceEq,Int.reduceLT,Int.reduceLE]
  refine ⟨by omega, rfl, ?_, ?_⟩
  ·rw [ed]; rfl
  ·rw [ed]; simp [toI_len]
 ·rintro m tm _ ⟨k, last, rfl, hk, rfl, t0, t1, t5, t6, t11, t12, t13, he⟩
  by_cases hlt : k < l.length
  ·have hj := hm (l.getD k default) (by rw [List.getD_eq_getElem?_getD, List.getElem?_eq_getElem hlt]; exact List.getElem_mem hlt)
   rw [kindsP_drop hlt] at he
   have hn := n8_next (l := kindsP p l) (k := k) (by rw [kindsP_len]; exact hlt)
   have hn2 := n8_le (kindsP p l) k
   rw [kindsP_at hlt] at hn
   generalize hkd : (p.getD (l.getD k default) default).kind = kd at he hn
   simp +contextual -dsimp -implicitDefEqProofs (maxSteps:=5000000) only [go_sem,reduceIte,reduceCtorEq,Nat.reduceEqDiff,Nat.reduceBEq,Nat.reduceAdd,Nat.reduceLeDiff,Nat.reduceMul,Nat.reduceLT,Int.reduceEq,Int.reduceLT,Int.reduceLE,t0,t1,t5,t6,t11,t12,t13,hlt,toI_len,toI_at,hj,hkd]
   have bad : ((decide (kd = 8) && decide (last ≤ 8)) = false) → ((decide (kd = 9) && decide (last = 8)) = false) → ((decide (kd = 10) && decide (last < 10)) = false) → tryOkF (kindsP p l) = false := by
    intro q1 q2 q3
    unfold tryOkF
    rw [he]
    simp only [tryG,q1,q2,q3,Bool.or_self,Bool.false_and]
   have good : ((decide (kd = 8) && decide (last ≤ 8)) = true ∨ (decide (kd = 9) && decide (last = 8)) = true ∨ (decide (kd = 10) && decide (last < 10)) = true) → tryG 7 (kindsP p l) = tryG kd ((kindsP p l).drop (k + 1)) := by
    intro q
    rw [he]
    simp only [tryG]
    rcases q with q | q | q <;> simp only [q,Bool.true_or,Bool.or_true,Bool.true_and]
   refine ⟨fun q => ?_, fun q1 => ⟨fun q => ?_, fun q2 => ⟨fun q => ?_, fun q3 => by rw [bad q1 q2 q3]⟩⟩⟩
   ·rw [if_pos q.1] at hn
    exact ⟨_, by omega, k + 1, 8, rfl, hlt, I_wrap (by omega) (by omega) (by rw [hn]; omega), rfl, I_wrap (by omega) (by omega) (by omega), by rw [good (.inl (by simp [q]))]; rw [q.1]⟩
   ·rw [if_neg (by omega)] at hn
    exact ⟨_, by omega, k + 1, 9, rfl, hlt, by rw [hn]; rfl, rfl, I_wrap (by omega) (by omega) (by omega), by rw [good (.inr (.inl (by simp [q])))]; rw [q.1]⟩
   ·rw [if_neg (by omega)] at hn
    exact ⟨_, by omega, k + 1, 10, rfl, hlt, by rw [hn]; rfl, rfl, I_wrap (by omega) (by omega) (by omega), by rw [good (.inr (.inr (by simp [q])))]; rw [q.1]⟩
  ·simp +contextual -dsimp -implicitDefEqProofs (maxSteps:=5000000) only [go_sem,reduceIte,reduceCtorEq,Nat.reduceEqDiff,Nat.reduceBEq,Nat.reduceAdd,Nat.reduceLeDiff,Nat.reduceMul,Nat.reduceLT,Int.reduceEq,Int.reduceLT,Int.reduceLE,t0,t1,t5,t6,t11,t12,t13,hlt,toI_len]
   have hk2 : k = l.length := by omega
   rw [hk2, ← kindsP_len p l, List.drop_length] at he
   rw [hk2, ← kindsP_len p l, List.take_length]
   unfold tryOkF
   rw [he]
   simp only [tryG,Bool.true_and]
   congr 2
   ·exact decide_eq_decide.2 (by omega)
   ·exact decide_eq_decide.2 (by unfold n8; omega)
def chG : Bool → Int → Nat → List Int → Bool
 | _, _, _, [] => true
 | fst, prev, ex, k :: ks => !((!fst && (decide (k < prev) || (decide (k = prev) && !decide (k = 8)))) || (decide (k = 9) && decide ((if k = 8 then ex + 1 else ex) = 0))) && chG false k (if k = 8 then ex + 1 else ex) ks
theorem chG_tryG : ∀ (ks : List Int) (fst : Bool) (prev : Int) (ex : Nat) (last : Int), (∀ k ∈ ks, followsK k = true) → (fst = true → last = 7 ∧ ex = 0) → (fst = false → last = prev ∧ 8 ≤ prev ∧ prev ≤ 10 ∧ (prev = 8 → 1 ≤ ex)) → chG fst prev ex ks = tryG last ks
 | [], _, _, _, _, _, _, _ => rfl
 | k :: ks, fst, prev, ex, last, hf, h1, h2 => by
  have hk := hf k (by simp)
  simp only [followsK,inR,Bool.and_eq_true,decide_eq_true_eq] at hk
  simp only [chG,tryG]
  have hrest : ∀ j ∈ ks, followsK j = true := fun j hj => hf j (by simp [hj])
  have hh : (!((!fst && (decide (k < prev) || (decide (k = prev) && !decide (k = 8)))) || (decide (k = 9) && decide ((if k = 8 then ex + 1 else ex) = 0)))) = ((decide (k = 8) && decide (last ≤ 8)) || ((decide (k = 9) && decide (last = 8)) || (decide (k = 10) && decide (last < 10)))) := by
   rw [Bool.eq_iff_iff]
   cases fst
   ·obtain ⟨rfl, a1, a2, a3⟩ := h2 rfl
    by_cases e8 : k = 8
    ·simp [e8]
    ·simp [e8]
     omega
   ·obtain ⟨rfl, rfl⟩ := h1 rfl
    by_cases e8 : k = 8
    ·simp [e8]
    ·simp [e8]
     omega
  rw [hh]
  cases hc : ((decide (k = 8) && decide (last ≤ 8)) || ((decide (k = 9) && decide (last = 8)) || (decide (k = 10) && decide (last < 10))))
  ·simp only [Bool.false_and]
  ·simp only [Bool.true_and]
   exact chG_tryG ks false k _ k hrest (fun q => by cases q) (fun _ => ⟨rfl, hk.1, hk.2, fun q => by rw [if_pos q]; omega⟩)
theorem c_validChain (p : List Line) (cl : Bool) (i : Nat) (H : AHeap) (hi : i < p.length) (hp : p.length ≤ 4398046511104) : ACalls Tryz.prog 143 [aProg p cl, I i] H fun r H' => r = B (tryOkF (kindsP p (tailQ p (p.getD i default).depth (endP p i)))) ∧ H' = H := by
 have hall := chainP_mem hi
 have hcl := endP_len hi
 have hfol : ∀ k ∈ kindsP p (tailQ p (p.getD i default).depth (endP p i)), followsK k = true := by
  intro k hk
  simp only [kindsP,List.mem_map] at hk
  obtain ⟨j, hj, rfl⟩ := hk
  exact (tailP_mem _ _ j hj).2
 rw [chainP_tail] at hall hcl
 refine acalls_of0 Tryz.func143 rfl (by kernel_rfl) rfl rfl (awp_sound (fz := fun _ => []) (im := fun _ => false) mixed _ _ _ _ (by kernel_rfl) ?_)
 simp +contextual -dsimp -implicitDefEqProofs (maxSteps:=5000000) only [go_sem,reduceIte,reduceCtorEq,Nat.reduceEqDiff,Nat.reduceBEq,Nat.reduceAdd,Nat.reduceLeDiff,Nat.reduceMul,Nat.reduceLT,Int.reduceEq,Int.reduceLT,Int.reduceLE]
 refine acalls_frz (c_chainOf p cl i _ hi hp) fun cl1 => ?_
 rw [chainP_tail]
 generalize tailQ p (p.getD i default).depth (endP p i) = l at hall hcl hfol ⊢
 simp only [List.length_cons] at hcl
 have key := chG_tryG (kindsP p l) true 0 0 7 hfol (fun _ => ⟨rfl, rfl⟩) (fun q => by cases q)
 simp +contextual -dsimp -implicitDefEqProofs (maxSteps:=5000000) only [go_sem,reduceIte,reduceCtorEq,Nat.reduceEqDiff,Nat.reduceBEq,Nat.reduceAdd,Nat.reduceLeDiff,Nat.reduceMul,Nat.reduceLT,Int.reduceEq,Int.reduceLT,Int.reduceLE]
 refine aloop mixed (fz := fun _ => []) (im := fun _ => false) (by kernel_rfl) (fun m tm H' => ∃ (k : Nat) (prev : Int), m = l.length - k ∧ k ≤ l.length ∧ H' = H ∧ tm 0 = aProg p cl ∧ tm 5 = .vsl ((toI (i :: l)).map rI) cl1 ∧ tm 6 = I (n8 ((kindsP p l).take k)) ∧ tm 7 = I (k + 1 : Nat) ∧ (k ≠ 0 → prev = (p.getD (l.getD (k - 1) default) default).kind) ∧ chG true 0 0 (kindsP p l) = chG (decide (k = 0)) prev (n8 ((kindsP p l).take k)) ((kindsP p l).drop k)) l.length ⟨0, 0, ?_⟩ ?_
 ·simp +contextual -dsimp -implicitDefEqProofs (maxSteps:=5000000) only [go_sem,reduceIte,reduceCtorEq,Nat.reduceEqDiff,Nat.reduceBEq,Nat.reduceAdd,Nat.reduceLeDiff,Nat.reduceMul,Nat.reduceLT,Int.reduceEq,Int.reduceLT,Int.reduceLE]
  exact ⟨by omega, rfl, rfl, rfl⟩
 ·rintro m tm _ ⟨k, prev, rfl, hk, rfl, t0, t5, t6, t7, hprev, he⟩
  by_cases hlt : k < l.length
  ·have hj := hall (l.getD k default) (by rw [List.getD_eq_getElem?_getD, List.getElem?_eq_getElem hlt]; simp)
   rw [kindsP_drop hlt] at he
   have hn := n8_next (l := kindsP p l) (k := k) (by rw [kindsP_len]; exact hlt)
   have hn2 := n8_le (kindsP p l) k
   rw [kindsP_at hlt] at hn
   have eat : (i :: l).getD (k + 1) default = l.getD k default := by simp [List.getD_eq_getElem?_getD]
   have hlt1 : k + 1 < l.length + 1 := by omega
   generalize hkd : (p.getD (l.getD k default) default).kind = kd at he hn
   have nx : ∀ e : Nat, n8 ((kindsP p l).take k) = e → ∃ e', n8 ((kindsP p l).take (k + 1)) = e' ∧ e' = if kd = 8 then e + 1 else e := fun e he => ⟨_, rfl, by rw [hn, he]; split <;> rfl⟩
   generalize hex : n8 ((kindsP p l).take k) = ex at he hn2 t6
   obtain ⟨ex', hex', hexv⟩ := nx ex hex
   simp only [chG] at he
   rw [← hexv] at he
   have fin : ∀ m' : Nat, (!decide (k = 0) && (decide (kd < prev) || (decide (kd = prev) && !decide (kd = 8)))) = false → (decide (kd = 9) && decide (ex' = 0)) = false → ∃ m', m' < l.length - k ∧ ∃ (k_1 : Nat) (prev : Int), m' = l.length - k_1 ∧ k_1 ≤ l.length ∧ I ex' = I (n8 ((kindsP p l).take k_1)) ∧ AV.lit (.int .i64 (IntKind.i64.wrap (((k + 1 : Nat) : Int) + 1))) = I (k_1 + 1 : Nat) ∧ (¬ k_1 = 0 → prev = (p.getD (l.getD (k_1 - 1) default) default).kind) ∧ chG true 0 0 (kindsP p l) = chG (decide (k_1 = 0)) prev (n8 ((kindsP p l).take k_1)) ((kindsP p l).drop k_1) := by
    intro _ q1 q2
    refine ⟨_, by omega, k + 1, kd, rfl, hlt, by rw [hex'], I_wrap (by omega) (by omega) (by omega), fun _ => by rw [Nat.add_sub_cancel, hkd], ?_⟩
    rw [he, q1, q2, hex']
    simp
   have bad : (!decide (k = 0) && (decide (kd < prev) || (decide (kd = prev) && !decide (kd = 8)))) = true ∨ (decide (kd = 9) && decide (ex' = 0)) = true → B false = B (tryOkF (kindsP p l)) := by
    intro q
    unfold tryOkF
    rw [← key, he]
    rcases q with q | q <;> simp only [q,Bool.true_or,Bool.or_true,Bool.not_true,Bool.false_and]
   have hw8 : kd = 8 → IntKind.i64.wrap ((ex : Int) + 1) = (ex' : Int) := fun q => by rw [w64 (by omega) (by omega), hexv, if_pos q]; rfl
   by_cases k0 : k = 0
   ·have c1 : ¬ (1 : Int) < ((k + 1 : Nat) : Int) := by omega
    by_cases h8 : kd = 8
    ·have hw := hw8 h8
     simp +contextual -dsimp -implicitDefEqProofs (maxSteps:=5000000) only [go_sem,reduceIte,reduceCtorEq,Nat.reduceEqDiff,Nat.reduceBEq,Nat.reduceAdd,Nat.reduceLeDiff,Nat.reduceMul,Nat.reduceLT,Int.reduceEq,Int.reduceLT,Int.reduceLE,t0,t5,t6,t7,hlt1,toI_len,toI_at,hj,List.length_cons,eat,hkd,h8,c1,hw]
     exact fin 0 (by simp [k0]) (by simp [h8])
    ·have hw : ex' = ex := by rw [hexv, if_neg h8]
     rw [hw] at fin bad
     simp +contextual -dsimp -implicitDefEqProofs (maxSteps:=5000000) only [go_sem,reduceIte,reduceCtorEq,Nat.reduceEqDiff,Nat.reduceBEq,Nat.reduceAdd,Nat.reduceLeDiff,Nat.reduceMul,Nat.reduceLT,Int.reduceEq,Int.reduceLT,Int.reduceLE,t0,t5,t6,t7,hlt1,toI_len,toI_at,hj,List.length_cons,eat,hkd,h8,c1]
     exact ⟨fun q => bad (.inr (by simp [q.1, q.2])), fun q => fin 0 (by simp [k0]) q⟩
   ·have c1 : (1 : Int) < ((k + 1 : Nat) : Int) := by omega
    have hw0 : IntKind.i64.wrap (((k + 1 : Nat) : Int) - 1) = (k : Int) := by rw [w64 (by omega) (by omega)]; omega
    have c2 : (k : Int) < ((l.length + 1 : Nat) : Int) := by omega
    have c3 : k < l.length + 1 := by omega
    have c4 : (i :: l).getD k default = l.getD (k - 1) default := by
     obtain ⟨k', rfl⟩ : ∃ k', k = k' + 1 := ⟨k - 1, by omega⟩
     simp [List.getD_eq_getElem?_getD]
    have hj2 := hall (l.getD (k - 1) default) (by rw [List.getD_eq_getElem?_getD, List.getElem?_eq_getElem (by omega)]; simp)
    have c5 := hprev k0
    by_cases h8 : kd = 8
    ·have hw := hw8 h8
     simp +contextual -dsimp -implicitDefEqProofs (maxSteps:=5000000) only [go_sem,reduceIte,reduceCtorEq,Nat.reduceEqDiff,Nat.reduceBEq,Nat.reduceAdd,Nat.reduceLeDiff,Nat.reduceMul,Nat.reduceLT,Int.reduceEq,Int.reduceLT,Int.reduceLE,t0,t5,t6,t7,hlt1,toI_len,toI_at,hj,List.length_cons,eat,hkd,h8,c1,hw,hw0,c2,c3,c4,hj2,← c5]
     exact ⟨fun q => bad (.inl (by simp [k0, h8, q])), fun q => fin 0 (by simp [k0, h8]; simpa using q) (by simp [h8])⟩
    ·have hw : ex' = ex := by rw [hexv, if_neg h8]
     rw [hw] at fin bad
     simp +contextual -dsimp -implicitDefEqProofs (maxSteps:=5000000) only [go_sem,reduceIte,reduceCtorEq,Nat.reduceEqDiff,Nat.reduceBEq,Nat.reduceAdd,Nat.reduceLeDiff,Nat.reduceMul,Nat.reduceLT,Int.reduceEq,Int.reduceLT,Int.reduceLE,t0,t5,t6,t7,hlt1,toI_len,toI_at,hj,List.length_cons,eat,hkd,h8,c1,hw0,c2,c3,c4,hj2,← c5]
     refine ⟨fun q => ?_, fun q => fin 0 ?_ q.2⟩
     ·rcases q with q | q
      ·exact bad (.inl (by simp [k0, h8]; omega))
      ·exact bad (.inr (by simp [q.1, q.2]))
     ·simp [k0, h8]; simpa using q.1
  ·have hlt1 : ¬ k + 1 < l.length + 1 := by omega
   simp +contextual -dsimp -implicitDefEqProofs (maxSteps:=5000000) only [go_sem,reduceIte,reduceCtorEq,Nat.reduceEqDiff,Nat.reduceBEq,Nat.reduceAdd,Nat.reduceLeDiff,Nat.reduceMul,Nat.reduceLT,Int.reduceEq,Int.reduceLT,Int.reduceLE,t0,t5,t6,t7,hlt1,toI_len,List.length_cons]
   have hk2 : k = l.length := by omega
   rw [hk2, ← kindsP_len p l, List.drop_length] at he
   rw [hk2, ← kindsP_len p l, List.take_length]
   unfold tryOkF
   rw [← key, he]
   simp only [chG,Bool.true_and]
   congr 2
   ·exact decide_eq_decide.2 (by omega)
   ·exact decide_eq_decide.2 (by unfold n8; omega)
end
section
open Go Go.Sim
set_option maxRecDepth 100000
set_option maxHeartbeats 4000000

def chainB : Fo → Nat → List (Nat × Fo)
 | .nil, _ => []
 | .node k _ _ kids rest, i => if followsK k = true then (i, kids) :: chainB rest (i + 1 + kids.size) else []
theorem chainB_fst : ∀ (f : Fo) (i : Nat), (chainB f i).map (·.1) = chainN f i
 | .nil, i => rfl
 | .node k a b kids rest, i => by
  simp only [chainB,chainN]
  split
  ·rw [List.map_cons, chainB_fst rest]
  ·rfl
theorem sibN_chain : ∀ (f : Fo) (i : Nat), sibN f i = chainN f i ++ sibN (skipF f) (skipN f i)
 | .nil, i => rfl
 | .node k a b kids rest, i => by
  simp only [chainN,skipF,skipN]
  split
  ·rw [sibN, sibN_chain rest]; rfl
  ·rfl
theorem okF_true (lp : Bool) : ∀ (f : Fo) (i : Nat), okF f lp true = ((chainB f i).all (fun q => okF q.2 lp false) && okF (skipF f) lp false)
 | .nil, i => rfl
 | .node k a b kids rest, i => by
  simp only [okF,chainB,skipF]
  by_cases h : followsK k = true
  ·rw [if_pos h, if_pos h, if_pos h, okF_true lp rest (i + 1 + kids.size), List.all_cons, Bool.true_and, Bool.and_assoc]
  ·rw [if_neg h, if_neg h, if_neg h]
   simp only [List.all_nil,Bool.true_and,okF]
   rw [if_neg h]
structure BlkAt (p : List Line) (d : Int) (n : Nat) (q : Nat × Fo) : Prop where
 lt : q.1 < p.length
 en : endP p q.1 = q.1 + 1 + q.2.size
 kids : At p (q.1 + 1) (d + 1) q.2
 small : q.2.size < n
theorem blkAt_node {p : List Line} {i n : Nat} {d k a b : Int} {kids rest : Fo} (h : At p i d (.node k a b kids rest)) (hn : (Fo.node k a b kids rest).size ≤ n) : BlkAt p d n (i, kids) :=
 ⟨h.head.1, h.endP, h.kids, by simp only [Fo.size] at hn; show kids.size < n; omega⟩
theorem chainB_at {p : List Line} {d : Int} {n : Nat} : ∀ (f : Fo) (i : Nat), At p i d f → f.size ≤ n → ∀ q ∈ chainB f i, BlkAt p d n q
 | .nil, i, h, hn, q, hq => by cases hq
 | .node k a b kids rest, i, h, hn, q, hq => by
  simp only [chainB] at hq
  split at hq
  ·rcases List.mem_cons.1 hq with rfl | hq
   ·exact blkAt_node h hn
   ·exact chainB_at rest _ h.rest (by simp only [Fo.size] at hn; omega) q hq
  ·cases hq
theorem kindsP_chain {p : List Line} {d : Int} : ∀ (f : Fo) (i : Nat), At p i d f → kindsP p (chainN f i) = headsK f
 | .nil, i, h => rfl
 | .node k a b kids rest, i, h => by
  simp only [chainN,headsK]
  split
  ·have := kindsP_chain rest _ h.rest
   simp only [kindsP,List.map_cons] at this ⊢
   rw [this, h.head.2]
  ·rfl
theorem drop_cons {l : List Nat} {n i : Nat} {r : List Nat} (h : l.drop n = i :: r) : n < l.length ∧ l.getD n default = i ∧ l.drop (n + 1) = r := by
 have hn : n < l.length := by
  rcases Nat.lt_or_ge n l.length with q | q
  ·exact q
  ·rw [List.drop_eq_nil_of_le q] at h; cases h
 rw [List.drop_eq_getElem_cons hn] at h
 injection h with h1 h2
 exact ⟨hn, by rw [List.getD_eq_getElem?_getD, List.getElem?_eq_getElem hn]; exact h1, h2⟩
theorem drop_nil {l : List Nat} {n : Nat} (h : l.drop n = []) : ¬ n < l.length := by
 intro q
 rw [List.drop_eq_getElem_cons q] at h
 cases h
theorem all_take_next {α : Type} [Inhabited α] {l : List α} {f : α → Bool} {k : Nat} (h : k < l.length) (e : (l.take k).all f = true) (e' : f (l.getD k default) = true) : (l.take (k + 1)).all f = true := by
 rw [List.take_succ_eq_append_getElem h, List.all_append, e]
 have : l.getD k default = l[k] := by rw [List.getD_eq_getElem?_getD, List.getElem?_eq_getElem h]; rfl
 rw [this] at e'
 simp [e']
theorem all_take_bad {α : Type} [Inhabited α] {l : List α} {f : α → Bool} {k : Nat} (h : k < l.length) (e' : f (l.getD k default) = false) : l.all f = false := by
 rw [List.all_eq_false]
 refine ⟨l.getD k default, ?_, by rw [e']; exact Bool.noConfusion⟩
 rw [List.getD_eq_getElem?_getD, List.getElem?_eq_getElem h]; exact List.getElem_mem h
theorem chain_len : ∀ (f : Fo) (i : Nat), (chainN f i).length + (skipF f).size ≤ f.size
 | .nil, i => Nat.le_refl _
 | .node k a b kids rest, i => by
  simp only [chainN,skipF]
  split
  ·have := chain_len rest (i + 1 + kids.size)
   simp only [Fo.size,List.length_cons]; omega
  ·simp
theorem c_blockOk (p : List Line) (cl : Bool) (hp : p.length ≤ 4398046511104) : ∀ (n : Nat) (f : Fo) (d : Int) (i : Nat) (lp : Bool) (H : AHeap), f.size < n → At p i d f →
  ACalls Tryz.prog 57 [aProg p cl, I i, I (i + f.size : Nat), B lp] H fun r H' => r = B (okF f lp false) ∧ H' = H := by
 intro n
 induction n with
 | zero => intro f d i lp H h; omega
 | succ n ih =>
  intro f d i lp H hfn hat
  have hfl := hat.len
  have sl := sibN_len f i
  have blk : ∀ (q : Nat × Fo) (lp : Bool) (H : AHeap), BlkAt p d n q → ACalls Tryz.prog 57 [aProg p cl, I (q.1 + 1 : Nat), I (q.1 + 1 + q.2.size : Nat), B lp] H fun r H' => r = B (okF q.2 lp false) ∧ H' = H :=
   fun q lp H h => ih q.2 (d + 1) (q.1 + 1) lp H h.small h.kids
  refine acalls_of0 Tryz.func57 rfl (by kernel_rfl) rfl rfl (awp_sound (fz := fun _ => []) (im := fun _ => false) mixed _ _ _ _ (by kernel_rfl) ?_)
  simp +contextual -dsimp -implicitDefEqProofs (maxSteps:=5000000) only [go_sem,reduceIte,reduceCtorEq,Nat.reduceEqDiff,Nat.reduceBEq,Nat.reduceAdd,Nat.reduceLeDiff,Nat.reduceMul,Nat.reduceLT,Int.reduceEq,Int.reduceLT,Int.reduceLE]
  refine acalls_frz (c_siblings p cl f d i _ hat hp) fun cl1 => ?_
  simp +contextual -dsimp -implicitDefEqProofs (maxSteps:=5000000) only [go_sem,reduceIte,reduceCtorEq,Nat.reduceEqDiff,Nat.reduceBEq,Nat.reduceAdd,Nat.reduceLeDiff,Nat.reduceMul,Nat.reduceLT,Int.reduceEq,Int.reduceLT,Int.reduceLE]
  refine aloop mixed (fz := fun _ => []) (im := fun _ => false) (by kernel_rfl) (fun m tm H' => ∃ (k j : Nat) (g : Fo), m = g.size ∧ H' = H ∧ At p j d g ∧ g.size ≤ f.size ∧ (sibN f i).drop k = sibN g j ∧ okF f lp false = okF g lp false ∧ k ≤ (sibN f i).length ∧ tm 0 = aProg p cl ∧ tm 3 = B lp ∧ tm 9 = .vsl ((toI (sibN f i)).map rI) cl1 ∧ tm 10 = I k) f.size ⟨0, i, f, rfl, rfl, hat, Nat.le_refl _, rfl, rfl, Nat.zero_le _, ?_⟩ ?_
  ·simp +contextual -dsimp -implicitDefEqProofs (maxSteps:=5000000) only [go_sem,reduceIte,reduceCtorEq,Nat.reduceEqDiff,Nat.reduceBEq,Nat.reduceAdd,Nat.reduceLeDiff,Nat.reduceMul,Nat.reduceLT,Int.reduceEq,Int.reduceLT,Int.reduceLE]
  ·rintro m tm H ⟨k, j, g, rfl, rfl, hg, hgs, hd, ho, hkl, t0, t3, t9, t10⟩
   cases g with
   | nil =>
    have h1 := drop_nil hd
    simp +contextual -dsimp -implicitDefEqProofs (maxSteps:=5000000) only [go_sem,reduceIte,reduceCtorEq,Nat.reduceEqDiff,Nat.reduceBEq,Nat.reduceAdd,Nat.reduceLeDiff,Nat.reduceMul,Nat.reduceLT,Int.reduceEq,Int.reduceLT,Int.reduceLE,t0,t3,t9,t10,toI_len,h1,ho]
    rfl
   | node ki a b kids rest =>
    obtain ⟨h1, h2, h3⟩ := drop_cons hd
    have hh := hg.head
    have hq := blkAt_node hg (n := n) (by omega)
    have hrl := hg.rest.len
    have hsz : (Fo.node ki a b kids rest).size = 1 + kids.size + rest.size := rfl
    have adv : okF f lp false = okF rest lp false → ∃ m', m' < (Fo.node ki a b kids rest).size ∧ ∃ (k_1 j : Nat) (g : Fo), m' = g.size ∧ At p j d g ∧ g.size ≤ f.size ∧ (sibN f i).drop k_1 = sibN g j ∧ okF f lp false = okF g lp false ∧ k_1 ≤ (sibN f i).length ∧ AV.lit (.int .i64 (IntKind.i64.wrap ((k : Int) + 1))) = I k_1 :=
     fun e => ⟨_, by rw [hsz]; omega, k + 1, j + 1 + kids.size, rest, rfl, hg.rest, by omega, h3, e, h1, I_wrap (by omega) (by omega) (by omega)⟩
    have on := ho
    simp only [okF] at on
    by_cases k56 : ki = 5 ∨ ki = 6
    ·rw [if_neg (by rcases k56 with q | q <;> subst q <;> decide), if_pos k56] at on
     have fin : (lp = false → B false = B (okF f lp false)) := fun q => by rw [on, q]; rfl
     have fin2 : lp = true → okF f lp false = okF rest lp false := fun q => by rw [on, q]; rfl
     by_cases k5 : ki = 5
     ·simp +contextual -dsimp -implicitDefEqProofs (maxSteps:=5000000) only [go_sem,reduceIte,reduceCtorEq,Nat.reduceEqDiff,Nat.reduceBEq,Nat.reduceAdd,Nat.reduceLeDiff,Nat.reduceMul,Nat.reduceLT,Int.reduceEq,Int.reduceLT,Int.reduceLE,t0,t3,t9,t10,toI_len,toI_at,h1,h2,hh.1,hh.2,k5]
      subst k5
      exact ⟨fun q => by subst q; exact fin rfl, fun q => by subst q; exact adv (fin2 rfl)⟩
     ·have k6 : ki = 6 := by omega
      simp +contextual -dsimp -implicitDefEqProofs (maxSteps:=5000000) only [go_sem,reduceIte,reduceCtorEq,Nat.reduceEqDiff,Nat.reduceBEq,Nat.reduceAdd,Nat.reduceLeDiff,Nat.reduceMul,Nat.reduceLT,Int.reduceEq,Int.reduceLT,Int.reduceLE,t0,t3,t9,t10,toI_len,toI_at,h1,h2,hh.1,hh.2,k6]
      subst k6
      exact ⟨fun q => by subst q; exact fin rfl, fun q => by subst q; exact adv (fin2 rfl)⟩
    ·by_cases kf : followsK ki = true
     ·rw [if_pos kf, Bool.false_and] at on
      rw [on]
      have kf' := kf
      simp only [followsK,inR,Bool.and_eq_true,decide_eq_true_eq] at kf'
      have n5 : ¬ ki = 5 := by omega
      have n6 : ¬ ki = 6 := by omega
      by_cases k8 : ki = 8
      ·simp +contextual -dsimp -implicitDefEqProofs (maxSteps:=5000000) only [go_sem,reduceIte,reduceCtorEq,Nat.reduceEqDiff,Nat.reduceBEq,Nat.reduceAdd,Nat.reduceLeDiff,Nat.reduceMul,Nat.reduceLT,Int.reduceEq,Int.reduceLT,Int.reduceLE,t0,t3,t9,t10,toI_len,toI_at,h1,h2,hh.1,hh.2,k8]
      ·by_cases k9 : ki = 9
       ·simp +contextual -dsimp -implicitDefEqProofs (maxSteps:=5000000) only [go_sem,reduceIte,reduceCtorEq,Nat.reduceEqDiff,Nat.reduceBEq,Nat.reduceAdd,Nat.reduceLeDiff,Nat.reduceMul,Nat.reduceLT,Int.reduceEq,Int.reduceLT,Int.reduceLE,t0,t3,t9,t10,toI_len,toI_at,h1,h2,hh.1,hh.2,k9]
       ·have k10 : ki = 10 := by omega
        simp +contextual -dsimp -implicitDefEqProofs (maxSteps:=5000000) only [go_sem,reduceIte,reduceCtorEq,Nat.reduceEqDiff,Nat.reduceBEq,Nat.reduceAdd,Nat.reduceLeDiff,Nat.reduceMul,Nat.reduceLT,Int.reduceEq,Int.reduceLT,Int.reduceLE,t0,t3,t9,t10,toI_len,toI_at,h1,h2,hh.1,hh.2,k10]
     ·rw [if_neg kf, if_neg k56] at on
      have n5 : ¬ ki = 5 := by omega
      have n6 : ¬ ki = 6 := by omega
      have nf : ¬ (8 ≤ ki ∧ ki ≤ 10) := fun q => kf (by simp only [followsK,inR,Bool.and_eq_true,decide_eq_true_eq]; exact q)
      have n8' : ¬ ki = 8 := by omega
      have n9 : ¬ ki = 9 := by omega
      have n10 : ¬ ki = 10 := by omega
      by_cases k7 : ki = 7
      ·rw [if_pos k7, okF_true lp rest (j + 1 + kids.size)] at on
       simp +contextual -dsimp -implicitDefEqProofs (maxSteps:=5000000) only [go_sem,reduceIte,reduceCtorEq,Nat.reduceEqDiff,Nat.reduceBEq,Nat.reduceAdd,Nat.reduceLeDiff,Nat.reduceMul,Nat.reduceLT,Int.reduceEq,Int.reduceLT,Int.reduceLE,t0,t3,t9,t10,toI_len,toI_at,h1,h2,hh.1,hh.2,k7]
       refine acalls_frz (c_tryFrom p cl j _ hh.1 hp) fun cl2 => ?_
       rw [chainP_at hg]
       simp +contextual -dsimp -implicitDefEqProofs (maxSteps:=5000000) only [go_sem,reduceIte,reduceCtorEq,Nat.reduceEqDiff,Nat.reduceBEq,Nat.reduceAdd,Nat.reduceLeDiff,Nat.reduceMul,Nat.reduceLT,Int.reduceEq,Int.reduceLT,Int.reduceLE,t0,t3,t9,t10,toI_len,toI_at,h1,h2,hh.1,hh.2,k7]
       refine (c_tryOk p cl j _ cl2 _ (fun q hq => by rw [← chainB_fst] at hq; obtain ⟨q', hq', rfl⟩ := List.mem_map.1 hq; exact (chainB_at rest _ hg.rest (Nat.le_refl _) q' hq').lt)).det ?_
       rw [kindsP_chain rest _ hg.rest]
       cases hto : tryOkF (headsK rest)
       ·rw [hto, Bool.false_and] at on
        rw [on]
        simp +contextual -dsimp -implicitDefEqProofs (maxSteps:=5000000) only [go_sem,reduceIte,reduceCtorEq,Nat.reduceEqDiff,Nat.reduceBEq,Nat.reduceAdd,Nat.reduceLeDiff,Nat.reduceMul,Nat.reduceLT,Int.reduceEq,Int.reduceLT,Int.reduceLE]
       ·rw [hto, Bool.true_and] at on
        simp +contextual -dsimp -implicitDefEqProofs (maxSteps:=5000000) only [go_sem,reduceIte,reduceCtorEq,Nat.reduceEqDiff,Nat.reduceBEq,Nat.reduceAdd,Nat.reduceLeDiff,Nat.reduceMul,Nat.reduceLT,Int.reduceEq,Int.reduceLT,Int.reduceLE,t0,t3,t9,t10,toI_len]
        have hall : ∀ q ∈ (j, kids) :: chainB rest (j + 1 + kids.size), BlkAt p d n q := by
         intro q hq'
         rcases List.mem_cons.1 hq' with rfl | hq'
         ·exact hq
         ·exact chainB_at rest _ hg.rest (by omega) q hq'
        have hmap : j :: chainN rest (j + 1 + kids.size) = ((j, kids) :: chainB rest (j + 1 + kids.size)).map (·.1) := by rw [List.map_cons, chainB_fst]
        have on2 : okF f lp false = (((j, kids) :: chainB rest (j + 1 + kids.size)).all (fun q => okF q.2 lp false) && okF (skipF rest) lp false) := by rw [on, List.all_cons, Bool.and_assoc]
        have hnext : (sibN f i).drop (k + 1 + (chainN rest (j + 1 + kids.size)).length) = sibN (skipF rest) (skipN rest (j + 1 + kids.size)) := by
         rw [← List.drop_drop, h3, sibN_chain rest, List.drop_left]
        have hnl : k + 1 + (chainN rest (j + 1 + kids.size)).length ≤ (sibN f i).length := by
         have := congrArg List.length h3
         rw [List.length_drop, sibN_chain rest, List.length_append] at this
         omega
        have hsk := hg.rest.skip
        have hss := skipF_size rest
        rw [hmap]
        generalize hB : (j, kids) :: chainB rest (j + 1 + kids.size) = bl at hall hmap on2
        have hbl : bl.length = (chainN rest (j + 1 + kids.size)).length + 1 := by rw [← hB, List.length_cons, ← chainB_fst, List.length_map]
        refine aloop mixed (fz := fun _ => []) (im := fun _ => false) (by kernel_rfl) (fun m tm H' => ∃ x : Nat, m = bl.length - x ∧ x ≤ bl.length ∧ H' = H ∧ tm 0 = aProg p cl ∧ tm 3 = B lp ∧ tm 9 = .vsl ((toI (sibN f i)).map rI) cl1 ∧ tm 10 = I k ∧ tm 13 = .vsl ((toI (bl.map (·.1))).map rI) cl2 ∧ tm 54 = .vsl ((toI (bl.map (·.1))).map rI) cl2 ∧ tm 55 = I bl.length ∧ tm 56 = I x ∧ (bl.take x).all (fun q => okF q.2 lp false) = true) bl.length ⟨0, ?_⟩ ?_
        ·simp +contextual -dsimp -implicitDefEqProofs (maxSteps:=5000000) only [go_sem,reduceIte,reduceCtorEq,Nat.reduceEqDiff,Nat.reduceBEq,Nat.reduceAdd,Nat.reduceLeDiff,Nat.reduceMul,Nat.reduceLT,Int.reduceEq,Int.reduceLT,Int.reduceLE,t0,t3,t9,t10,toI_len,List.length_map]
         exact ⟨by omega, by congr 2; omega⟩
        ·rintro m tm H ⟨x, rfl, hx, rfl, t0, t3, t9, t10, t13, t54, t55, t56, hok⟩
         by_cases hlt : x < bl.length
         ·have hqx := hall (bl.getD x default) (by rw [List.getD_eq_getElem?_getD, List.getElem?_eq_getElem hlt]; exact List.getElem_mem hlt)
          have hgx : (bl.map (·.1)).getD x default = (bl.getD x default).1 := by
           simp only [List.getD_eq_getElem?_getD,List.getElem?_map,List.getElem?_eq_getElem hlt,Option.map_some,Option.getD_some]
          have hw : IntKind.i64.wrap (((bl.getD x default).1 : Int) + 1) = (((bl.getD x default).1 + 1 : Nat) : Int) := by
           have := hqx.lt
           rw [w64 (by omega) (by omega)]; rfl
          simp +contextual -dsimp -implicitDefEqProofs (maxSteps:=5000000) only [go_sem,reduceIte,reduceCtorEq,Nat.reduceEqDiff,Nat.reduceBEq,Nat.reduceAdd,Nat.reduceLeDiff,Nat.reduceMul,Nat.reduceLT,Int.reduceEq,Int.reduceLT,Int.reduceLE,t0,t3,t9,t10,t13,t54,t55,t56,toI_len,toI_at,List.length_map,hlt,hgx,hw]
          refine (c_endOf p cl _ _ hqx.lt).det ?_
          rw [hqx.en]
          simp +contextual -dsimp -implicitDefEqProofs (maxSteps:=5000000) only [go_sem,reduceIte,reduceCtorEq,Nat.reduceEqDiff,Nat.reduceBEq,Nat.reduceAdd,Nat.reduceLeDiff,Nat.reduceMul,Nat.reduceLT,Int.reduceEq,Int.reduceLT,Int.reduceLE,t0,t3,t9,t10,t13,t54,t55,t56]
          refine (blk _ lp _ hqx).det ?_
          cases hk : okF (bl.getD x default).2 lp false
          ·rw [all_take_bad (f := fun q => okF q.2 lp false) hlt hk, Bool.false_and] at on2
           rw [on2]
           simp +contextual -dsimp -implicitDefEqProofs (maxSteps:=5000000) only [go_sem,reduceIte,reduceCtorEq,Nat.reduceEqDiff,Nat.reduceBEq,Nat.reduceAdd,Nat.reduceLeDiff,Nat.reduceMul,Nat.reduceLT,Int.reduceEq,Int.reduceLT,Int.reduceLE,t0,t3,t9,t10,t13,t54,t55,t56]
          ·simp +contextual -dsimp -implicitDefEqProofs (maxSteps:=5000000) only [go_sem,reduceIte,reduceCtorEq,Nat.reduceEqDiff,Nat.reduceBEq,Nat.reduceAdd,Nat.reduceLeDiff,Nat.reduceMul,Nat.reduceLT,Int.reduceEq,Int.reduceLT,Int.reduceLE,t0,t3,t9,t10,t13,t54,t55,t56]
           exact ⟨_, by omega, x + 1, rfl, hlt, I_wrap (by omega) (by omega) (by omega), all_take_next (f := fun q => okF q.2 lp false) hlt hok hk⟩
         ·have hxe : x = bl.length := by omega
          rw [hxe, List.take_length] at hok
          rw [hok, Bool.true_and] at on2
          simp +contextual -dsimp -implicitDefEqProofs (maxSteps:=5000000) only [go_sem,reduceIte,reduceCtorEq,Nat.reduceEqDiff,Nat.reduceBEq,Nat.reduceAdd,Nat.reduceLeDiff,Nat.reduceMul,Nat.reduceLT,Int.reduceEq,Int.reduceLT,Int.reduceLE,t0,t3,t9,t10,t13,t54,t55,t56,toI_len,List.length_map,hlt]
          refine ⟨_, ?_, k + 1 + (chainN rest (j + 1 + kids.size)).length, skipN rest (j + 1 + kids.size), skipF rest, rfl, hsk, by omega, hnext, on2, hnl, ?_⟩
          ·rw [hsz]; omega
          ·rw [w64 (a := (bl.length : Int) - 1) (by omega) (by omega), w64 (a := (k : Int) + ((bl.length : Int) - 1)) (by omega) (by omega)]
           exact I_wrap (by omega) (by omega) (by omega)
      ·rw [if_neg k7] at on
       by_cases k11 : ki = 11
       ·rw [if_pos k11] at on
        simp +contextual -dsimp -implicitDefEqProofs (maxSteps:=5000000) only [go_sem,reduceIte,reduceCtorEq,Nat.reduceEqDiff,Nat.reduceBEq,Nat.reduceAdd,Nat.reduceLeDiff,Nat.reduceMul,Nat.reduceLT,Int.reduceEq,Int.reduceLT,Int.reduceLE,t0,t3,t9,t10,toI_len,toI_at,h1,h2,hh.1,hh.2,k11]
        refine (c_endOf p cl j _ hh.1).det ?_
        rw [hg.endP]
        have hw : IntKind.i64.wrap ((j : Int) + 1) = ((j + 1 : Nat) : Int) := by rw [w64 (by omega) (by omega)]; rfl
        cases lp
        ·simp +contextual -dsimp -implicitDefEqProofs (maxSteps:=5000000) only [go_sem,reduceIte,reduceCtorEq,Nat.reduceEqDiff,Nat.reduceBEq,Nat.reduceAdd,Nat.reduceLeDiff,Nat.reduceMul,Nat.reduceLT,Int.reduceEq,Int.reduceLT,Int.reduceLE,t0,t3,t9,t10,toI_len,hw]
         refine (blk (j, kids) false _ hq).det ?_
         cases hk : okF kids false false
         ·rw [hk, Bool.false_and] at on
          rw [on]
          simp +contextual -dsimp -implicitDefEqProofs (maxSteps:=5000000) only [go_sem,reduceIte,reduceCtorEq,Nat.reduceEqDiff,Nat.reduceBEq,Nat.reduceAdd,Nat.reduceLeDiff,Nat.reduceMul,Nat.reduceLT,Int.reduceEq,Int.reduceLT,Int.reduceLE,hk]
         ·rw [hk, Bool.true_and] at on
          simp +contextual -dsimp -implicitDefEqProofs (maxSteps:=5000000) only [go_sem,reduceIte,reduceCtorEq,Nat.reduceEqDiff,Nat.reduceBEq,Nat.reduceAdd,Nat.reduceLeDiff,Nat.reduceMul,Nat.reduceLT,Int.reduceEq,Int.reduceLT,Int.reduceLE,t0,t3,t9,t10,toI_len,hk]
          exact adv on
        ·simp +contextual -dsimp -implicitDefEqProofs (maxSteps:=5000000) only [go_sem,reduceIte,reduceCtorEq,Nat.reduceEqDiff,Nat.reduceBEq,Nat.reduceAdd,Nat.reduceLeDiff,Nat.reduceMul,Nat.reduceLT,Int.reduceEq,Int.reduceLT,Int.reduceLE,t0,t3,t9,t10,toI_len,hw]
         refine (blk (j, kids) true _ hq).det ?_
         cases hk : okF kids true false
         ·rw [hk, Bool.false_and] at on
          rw [on]
          simp +contextual -dsimp -implicitDefEqProofs (maxSteps:=5000000) only [go_sem,reduceIte,reduceCtorEq,Nat.reduceEqDiff,Nat.reduceBEq,Nat.reduceAdd,Nat.reduceLeDiff,Nat.reduceMul,Nat.reduceLT,Int.reduceEq,Int.reduceLT,Int.reduceLE,hk]
         ·rw [hk, Bool.true_and] at on
          simp +contextual -dsimp -implicitDefEqProofs (maxSteps:=5000000) only [go_sem,reduceIte,reduceCtorEq,Nat.reduceEqDiff,Nat.reduceBEq,Nat.reduceAdd,Nat.reduceLeDiff,Nat.reduceMul,Nat.reduceLT,Int.reduceEq,Int.reduceLT,Int.reduceLE,t0,t3,t9,t10,toI_len,hk]
          exact adv on
       ·rw [if_neg k11] at on
        by_cases k12 : ki = 12
        ·rw [if_pos k12] at on
         simp +contextual -dsimp -implicitDefEqProofs (maxSteps:=5000000) only [go_sem,reduceIte,reduceCtorEq,Nat.reduceEqDiff,Nat.reduceBEq,Nat.reduceAdd,Nat.reduceLeDiff,Nat.reduceMul,Nat.reduceLT,Int.reduceEq,Int.reduceLT,Int.reduceLE,t0,t3,t9,t10,toI_len,toI_at,h1,h2,hh.1,hh.2,k12]
         refine (c_endOf p cl j _ hh.1).det ?_
         rw [hg.endP]
         have hw : IntKind.i64.wrap ((j : Int) + 1) = ((j + 1 : Nat) : Int) := by rw [w64 (by omega) (by omega)]; rfl
         have hlp : (lp || true) = true := by cases lp <;> rfl
         simp +contextual -dsimp -implicitDefEqProofs (maxSteps:=5000000) only [go_sem,reduceIte,reduceCtorEq,Nat.reduceEqDiff,Nat.reduceBEq,Nat.reduceAdd,Nat.reduceLeDiff,Nat.reduceMul,Nat.reduceLT,Int.reduceEq,Int.reduceLT,Int.reduceLE,t0,t3,t9,t10,toI_len,hw,hlp]
         refine (blk (j, kids) true _ hq).det ?_
         cases hk : okF kids true false
         ·rw [hk, Bool.false_and] at on
          rw [on]
          simp +contextual -dsimp -implicitDefEqProofs (maxSteps:=5000000) only [go_sem,reduceIte,reduceCtorEq,Nat.reduceEqDiff,Nat.reduceBEq,Nat.reduceAdd,Nat.reduceLeDiff,Nat.reduceMul,Nat.reduceLT,Int.reduceEq,Int.reduceLT,Int.reduceLE,hk]
         ·rw [hk, Bool.true_and] at on
          simp +contextual -dsimp -implicitDefEqProofs (maxSteps:=5000000) only [go_sem,reduceIte,reduceCtorEq,Nat.reduceEqDiff,Nat.reduceBEq,Nat.reduceAdd,Nat.reduceLeDiff,Nat.reduceMul,Nat.reduceLT,Int.reduceEq,Int.reduceLT,Int.reduceLE,t0,t3,t9,t10,toI_len,hk]
          exact adv on
        ·rw [if_neg k12] at on
         simp +contextual -dsimp -implicitDefEqProofs (maxSteps:=5000000) only [go_sem,reduceIte,reduceCtorEq,Nat.reduceEqDiff,Nat.reduceBEq,Nat.reduceAdd,Nat.reduceLeDiff,Nat.reduceMul,Nat.reduceLT,Int.reduceEq,Int.reduceLT,Int.reduceLE,t0,t3,t9,t10,toI_len,toI_at,h1,h2,hh.1,hh.2,n5,n6,n8',n9,n10,k7,k11,k12]
         exact adv on
end
section
open Go Go.Sim
set_option maxRecDepth 100000

def stepOk (l m : Line) : Bool := if opensK l.kind = true then decide (m.depth = l.depth + 1) else decide (m.depth ≤ l.depth)
def oneOk (t : List Class) (l : Line) : Bool := numOk t l.kind l.a l.b && inR l.depth 0 5
def depT (t : List Class) : List Line → Bool
 | [] => true
 | l :: r => oneOk t l && ((match r with | [] => !opensK l.kind | m :: _ => stepOk l m) && depT t r)
theorem depT_iff (t : List Class) : ∀ p : List Line, depT t p = true ↔ (∀ i, i < p.length → oneOk t (p.getD i default) = true) ∧ (∀ i, i + 1 < p.length → stepOk (p.getD i default) (p.getD (i + 1) default) = true) ∧ (p ≠ [] → opensK (p.getD (p.length - 1) default).kind = false)
 | [] => by simp [depT]
 | [l] => by
  simp only [depT,Bool.and_eq_true,Bool.not_eq_true']
  constructor
  ·rintro ⟨h1, h2, _⟩
   refine ⟨fun i hi => ?_, fun i hi => by simp at hi, fun _ => by simpa using h2⟩
   have : i = 0 := by simp at hi; omega
   subst this; simpa using h1
  ·rintro ⟨h1, _, h3⟩
   exact ⟨by simpa using h1 0 (by simp), by simpa using h3 (by simp), trivial⟩
 | l :: m :: r => by
  have ih := depT_iff t (m :: r)
  rw [depT, Bool.and_eq_true, Bool.and_eq_true, ih]
  constructor
  ·rintro ⟨h1, h2, h3, h4, h5⟩
   refine ⟨fun i hi => ?_, fun i hi => ?_, fun _ => ?_⟩
   ·cases i with
    | zero => simpa using h1
    | succ i => simpa using h3 i (by simpa using hi)
   ·cases i with
    | zero => simpa using h2
    | succ i => simpa using h4 i (by simpa using hi)
   ·simpa using h5 (by simp)
  ·rintro ⟨h1, h2, h3⟩
   refine ⟨by simpa using h1 0 (by simp), by simpa using h2 0 (by simp), fun i hi => by simpa using h1 (i + 1) (by simpa using hi), fun i hi => by simpa using h2 (i + 1) (by simpa using hi), fun _ => by simpa using h3 (by simp)⟩
theorem oneOk_num {t : List Class} {l : Line} (h : oneOk t l = true) : numOk t l.kind l.a l.b = true ∧ inR l.depth 0 5 = true := by
 simpa [oneOk] using h
theorem depT_cons (t : List Class) (l : Line) (r : List Line) : depT t (l :: r) = (oneOk t l && ((match r with | [] => !opensK l.kind | m :: _ => stepOk l m) && depT t r)) := by rw [depT.eq_def]
theorem forest_of (t : List Class) : ∀ (n : Nat) (l : Line) (r : List Line), r.length < n → depT t (l :: r) = true → ∃ (f : Fo) (post : List Line), l :: r = f.flat l.depth ++ post ∧ f.isNil = false ∧ numsF t f l.depth = true ∧ Low l.depth post ∧ depT t post = true := by
 intro n
 induction n with
 | zero => intro l r h; omega
 | succ n ih =>
  intro l r hl h
  rw [depT_cons, Bool.and_eq_true, Bool.and_eq_true] at h
  obtain ⟨h1, h2, h3⟩ := h
  have ⟨a1, a2⟩ := oneOk_num h1
  have el : (⟨l.depth, l.kind, l.a, l.b⟩ : Line) = l := rfl
  cases r with
  | nil =>
   refine ⟨.node l.kind l.a l.b .nil .nil, [], by simp [Fo.flat], rfl, ?_, low_nil _, rfl⟩
   simp only [Bool.not_eq_true'] at h2
   simp [numsF, a1, a2, h2, Fo.isNil]
  | cons m r =>
   have hl' : r.length < n := by simp at hl; omega
   by_cases ho : opensK l.kind = true
   ·simp only [stepOk,ho,if_true,decide_eq_true_eq] at h2
    obtain ⟨ks, p1, e1, n1, u1, w1, d1⟩ := ih m r hl' h3
    rw [h2] at e1 u1 w1
    have hlen : p1.length ≤ r.length := by
     have := congrArg List.length e1
     rw [List.length_append, flat_len] at this
     have hs : ks.size ≠ 0 := by
      cases ks with
      | nil => simp [Fo.isNil] at n1
      | node => simp [Fo.size]
     simp at this
     omega
    cases p1 with
    | nil =>
     refine ⟨.node l.kind l.a l.b ks .nil, [], by rw [e1]; simp [Fo.flat], rfl, ?_, low_nil _, rfl⟩
     simp [numsF, a1, a2, ho, n1, u1]
    | cons x y =>
     have hx := w1 x y rfl
     by_cases hx2 : x.depth = l.depth
     ·obtain ⟨rs, p2, e2, n2, u2, w2, d2⟩ := ih x y (by simp at hlen; omega) d1
      rw [hx2] at e2 u2 w2
      refine ⟨.node l.kind l.a l.b ks rs, p2, by rw [e1, e2]; simp [Fo.flat], rfl, ?_, w2, d2⟩
      simp [numsF, a1, a2, ho, n1, u1, u2]
     ·refine ⟨.node l.kind l.a l.b ks .nil, x :: y, by rw [e1]; simp [Fo.flat], rfl, ?_, fun l' r' e => ?_, d1⟩
      ·simp [numsF, a1, a2, ho, n1, u1]
      ·injection e with e3 e4
       rw [← e3]; omega
   ·have ho' : opensK l.kind = false := by simpa using ho
    simp only [stepOk,ho',Bool.false_eq_true,if_false,decide_eq_true_eq] at h2
    by_cases hx2 : m.depth = l.depth
    ·obtain ⟨rs, p2, e2, n2, u2, w2, d2⟩ := ih m r hl' h3
     rw [hx2] at e2 u2 w2
     refine ⟨.node l.kind l.a l.b .nil rs, p2, by rw [e2]; simp [Fo.flat], rfl, ?_, w2, d2⟩
     simp [numsF, a1, a2, ho', Fo.isNil, u2]
    ·refine ⟨.node l.kind l.a l.b .nil .nil, m :: r, by simp [Fo.flat], rfl, ?_, fun l' r' e => ?_, h3⟩
     ·simp [numsF, a1, a2, ho', Fo.isNil]
     ·injection e with e3 e4
      rw [← e3]; omega
theorem forest_top {t : List Class} {p : List Line} (h : depT t p = true) (h0 : p ≠ [] → (p.getD 0 default).depth = 0) : ∃ f : Fo, p = f.flat 0 ∧ numsF t f 0 = true := by
 cases p with
 | nil => exact ⟨.nil, rfl, rfl⟩
 | cons l r =>
  have hd : l.depth = 0 := by simpa using h0 (by simp)
  obtain ⟨f, post, e1, _, u1, w1, d1⟩ := forest_of t (r.length + 1) l r (by omega) h
  rw [hd] at e1 u1 w1
  cases post with
  | nil => exact ⟨f, by simpa using e1, u1⟩
  | cons x y =>
   have := w1 x y rfl
   rw [depT_cons, Bool.and_eq_true] at d1
   have := (oneOk_num d1.1).2
   simp only [inR,Bool.and_eq_true,decide_eq_true_eq] at this
   omega
theorem depT_flat {t : List Class} : ∀ (f : Fo) (d : Int) (post : List Line), numsF t f d = true → Low (d + 1) post → depT t post = true → depT t (f.flat d ++ post) = true
 | .nil, d, post, _, _, h => h
 | .node k a b kids rest, d, post, hn, hl, h => by
  obtain ⟨n1, n2, n3, n4, n5⟩ := numsF_node hn
  have hr := depT_flat rest d post n5 hl h
  have hlr : Low (d + 1) (rest.flat d ++ post) := by
   cases rest with
   | nil => exact hl
   | node k' a' b' x y =>
    intro l r e
    simp only [Fo.flat,List.cons_append] at e
    injection e with e1 e2
    rw [← e1]; show d < d + 1; omega
  have hk := depT_flat kids (d + 1) (rest.flat d ++ post) n4 (fun l r e => by have := hlr l r e; omega) hr
  have e : (Fo.node k a b kids rest).flat d ++ post = ⟨d, k, a, b⟩ :: (kids.flat (d + 1) ++ (rest.flat d ++ post)) := by simp [Fo.flat]
  rw [e, depT_cons, hk, Bool.and_true]
  have h1 : oneOk t ⟨d, k, a, b⟩ = true := by simp [oneOk, n1, n2]
  rw [h1, Bool.true_and]
  cases kids with
  | nil =>
   have ho : opensK k = false := by simpa [Fo.isNil] using n3
   simp only [Fo.flat,List.nil_append]
   cases hq : rest.flat d ++ post with
   | nil => simp [ho]
   | cons m r =>
    have := hlr m r hq
    simp only [stepOk,ho,Bool.false_eq_true,if_false,decide_eq_true_eq]
    omega
  | node k' a' b' x y =>
   have ho : opensK k = true := by simpa [Fo.isNil] using n3
   simp only [Fo.flat,List.cons_append,stepOk,ho,if_true,decide_eq_true_eq]
theorem flat_inj : ∀ (f g : Fo) (d : Int) (p q : List Line), f.flat d ++ p = g.flat d ++ q → Low d p → Low d q → f = g ∧ p = q
 | .nil, .nil, d, p, q, h, _, _ => ⟨rfl, h⟩
 | .nil, .node k a b x y, d, p, q, h, hp, _ => by
  simp only [Fo.flat,List.nil_append,List.cons_append] at h
  have := hp _ _ h
  exact absurd this (by show ¬ d < d; omega)
 | .node k a b x y, .nil, d, p, q, h, _, hq => by
  simp only [Fo.flat,List.nil_append,List.cons_append] at h
  have := hq _ _ h.symm
  exact absurd this (by show ¬ d < d; omega)
 | .node k a b x y, .node k' a' b' x' y', d, p, q, h, hp, hq => by
  simp only [Fo.flat,List.cons_append,List.append_assoc] at h
  injection h with h1 h2
  injection h1 with _ e1 e2 e3
  subst e1; subst e2; subst e3
  obtain ⟨rfl, h3⟩ := flat_inj x x' (d + 1) _ _ h2 (low_flat hp) (low_flat hq)
  obtain ⟨rfl, h4⟩ := flat_inj y y' d p q h3 hp hq
  exact ⟨rfl, h4⟩
theorem flat_one {f g : Fo} {d : Int} (h : f.flat d = g.flat d) : f = g := (flat_inj f g d [] [] (by simp [h]) (low_nil _) (low_nil _)).1
def upto (p : List Line) (i : Nat) : List Line := (p.take i).reverse
theorem upto_succ {p : List Line} {i : Nat} (h : i < p.length) : upto p (i + 1) = p.getD i default :: upto p i := by
 unfold upto
 rw [List.take_succ_eq_append_getElem h, List.reverse_append, List.getD_eq_getElem?_getD, List.getElem?_eq_getElem h]; rfl
def inLoopR : Int → List Line → Bool
 | _, [] => false
 | d, x :: r => if x.depth < d then decide (x.kind = 12) || inLoopR x.depth r else inLoopR d r
def headR : Int → List Line → Option Line
 | _, [] => none
 | d, x :: r => if x.depth < d then none else if x.depth = d then some x else headR d r
def headOkR (o : Option Line) : Bool := match o with | none => false | some x => decide (x.kind = 7) || followsK x.kind
theorem loop_skip {d : Int} : ∀ (l r : List Line), (∀ x ∈ l, d ≤ x.depth) → inLoopR d (l ++ r) = inLoopR d r
 | [], r, _ => rfl
 | x :: l, r, h => by
  have hx := h x (by simp)
  simp only [List.cons_append,inLoopR]
  rw [if_neg (by omega)]
  exact loop_skip l r fun y hy => h y (by simp [hy])
theorem head_skip {d : Int} : ∀ (l r : List Line), (∀ x ∈ l, d < x.depth) → headR d (l ++ r) = headR d r
 | [], r, _ => rfl
 | x :: l, r, h => by
  have hx := h x (by simp)
  simp only [List.cons_append,headR]
  rw [if_neg (by omega), if_neg (by omega)]
  exact head_skip l r fun y hy => h y (by simp [hy])
def stOk (p : List Line) (i : Nat) : Bool :=
 (!decide ((p.getD i default).kind = 7) || tryOkF (kindsP p (tailQ p (p.getD i default).depth (endP p i)))) &&
 ((!(decide ((p.getD i default).kind = 5) || decide ((p.getD i default).kind = 6)) || inLoopR (p.getD i default).depth (upto p i)) &&
  (!followsK (p.getD i default).kind || headOkR (headR (p.getD i default).depth (upto p i))))
theorem upto_add {p : List Line} {i : Nat} {d : Int} {f : Fo} (h : At p i d f) : upto p (i + f.size) = (f.flat d).reverse ++ upto p i := by
 obtain ⟨pre, post, rfl, rfl, _⟩ := h
 unfold upto
 have e1 : (pre ++ (f.flat d ++ post)).take (pre.length + f.size) = pre ++ f.flat d := by
  rw [← List.append_assoc, ← flat_len f d, ← List.length_append, List.take_left]
 have e2 : (pre ++ (f.flat d ++ post)).take pre.length = pre := List.take_left
 rw [e1, e2, List.reverse_append]
theorem all_range {i j : Nat} {p : Nat → Prop} : (∀ x, i ≤ x → x < i + 1 + j → p x) ↔ p i ∧ ∀ x, i + 1 ≤ x → x < i + 1 + j → p x := by
 constructor
 ·exact fun h => ⟨h i (by omega) (by omega), fun x h1 h2 => h x (by omega) h2⟩
 ·rintro ⟨h1, h2⟩ x h3 h4
  rcases Nat.lt_or_ge i x with q | q
  ·exact h2 x (by omega) h4
  ·rw [show x = i by omega]; exact h1
theorem all_split {i a b : Nat} {p : Nat → Prop} : (∀ x, i ≤ x → x < i + (a + b) → p x) ↔ (∀ x, i ≤ x → x < i + a → p x) ∧ ∀ x, i + a ≤ x → x < i + a + b → p x := by
 constructor
 ·exact fun h => ⟨fun x h1 h2 => h x h1 (by omega), fun x h1 h2 => h x (by omega) (by omega)⟩
 ·rintro ⟨h1, h2⟩ x h3 h4
  rcases Nat.lt_or_ge x (i + a) with q | q
  ·exact h1 x h3 q
  ·exact h2 x q (by omega)
theorem st_ok {t : List Class} {p : List Line} : ∀ (f : Fo) (i : Nat) (d : Int) (lp m : Bool), At p i d f → numsF t f d = true → inLoopR d (upto p i) = lp → headOkR (headR d (upto p i)) = m → ((∀ x, i ≤ x → x < i + f.size → stOk p x = true) ↔ okF f lp m = true)
 | .nil, i, d, lp, m, h, _, _, _ => by
  simp only [okF,Fo.size]
  exact ⟨fun _ => trivial, fun _ x h1 h2 => absurd h2 (by omega)⟩
 | .node k a b kids rest, i, d, lp, m, h, hn, hlp, hm => by
  obtain ⟨n1, n2, n3, n4, n5⟩ := numsF_node hn
  have hh := h.head
  have eu : upto p (i + 1) = ⟨d, k, a, b⟩ :: upto p i := by rw [upto_succ hh.1, hh.2]
  have eu2 : upto p (i + 1 + kids.size) = (kids.flat (d + 1)).reverse ++ ⟨d, k, a, b⟩ :: upto p i := by rw [upto_add h.kids, eu]
  have l1 : inLoopR (d + 1) (upto p (i + 1)) = (decide (k = 12) || lp) := by
   rw [eu]; simp only [inLoopR]; rw [if_pos (by omega),hlp]
  have m1 : headOkR (headR (d + 1) (upto p (i + 1))) = false := by
   rw [eu]; simp only [headR]; rw [if_pos (by omega)]; rfl
  have l2 : inLoopR d (upto p (i + 1 + kids.size)) = lp := by
   rw [eu2, loop_skip _ _ (fun x hx => by have := flat_deep kids (d + 1) x (by simpa using hx); omega)]
   simp only [inLoopR]; rw [if_neg (by omega),hlp]
  have m2 : headOkR (headR d (upto p (i + 1 + kids.size))) = (decide (k = 7) || followsK k) := by
   rw [eu2, head_skip _ _ (fun x hx => by have := flat_deep kids (d + 1) x (by simpa using hx); omega)]
   simp only [headR]; rw [if_neg (by omega),if_true]; rfl
  have ik := st_ok kids (i + 1) (d + 1) _ _ h.kids n4 l1 m1
  have ir := st_ok rest (i + 1 + kids.size) d _ _ h.rest n5 l2 m2
  have e1 : (∀ x, i ≤ x → x < i + (Fo.node k a b kids rest).size → stOk p x = true) ↔ (stOk p i = true ∧ (∀ x, i + 1 ≤ x → x < i + 1 + kids.size → stOk p x = true) ∧ ∀ x, i + 1 + kids.size ≤ x → x < i + 1 + kids.size + rest.size → stOk p x = true) := by
   have e : i + (Fo.node k a b kids rest).size = i + 1 + (kids.size + rest.size) := by simp only [Fo.size]; omega
   rw [e, all_range, all_split]
  rw [e1, ik, ir]
  have es : stOk p i = ((!decide (k = 7) || tryOkF (headsK rest)) && ((!(decide (k = 5) || decide (k = 6)) || lp) && (!followsK k || m))) := by
   unfold stOk
   rw [hh.2]
   simp only
   rw [hlp, hm, h.endP]
   have : tailQ p d (i + 1 + kids.size) = chainN rest (i + 1 + kids.size) := tailP_at rest _ _ d h.rest (by omega)
   rw [this, kindsP_chain rest _ h.rest]
  rw [es]
  have kn : opensK k = false → kids = .nil := by
   intro q
   rw [q] at n3
   cases kids with
   | nil => rfl
   | node => simp [Fo.isNil] at n3
  simp only [okF]
  by_cases hf : followsK k = true
  ·have hf' := hf
   simp only [followsK,inR,Bool.and_eq_true,decide_eq_true_eq] at hf'
   have c7 : ¬ k = 7 := by omega
   have c5 : ¬ k = 5 := by omega
   have c6 : ¬ k = 6 := by omega
   have c12 : ¬ k = 12 := by omega
   simp [hf, c7, c5, c6, c12]
  ·have hf2 : followsK k = false := by simpa using hf
   by_cases c56 : k = 5 ∨ k = 6
   ·have hk : kids = .nil := kn (by rcases c56 with q | q <;> subst q <;> rfl)
    have c7 : ¬ k = 7 := by omega
    have c56' : (decide (k = 5) || decide (k = 6)) = true := by simpa using c56
    subst hk
    simp [hf2, c56, c7, c56', okF]
   ·have c5 : ¬ k = 5 := fun q => c56 (.inl q)
    have c6 : ¬ k = 6 := fun q => c56 (.inr q)
    by_cases c7 : k = 7
    ·subst c7
     simp [hf2, Bool.and_assoc]
    ·by_cases c11 : k = 11
     ·subst c11
      simp [hf2]
     ·by_cases c12 : k = 12
      ·subst c12
       simp [hf2]
      ·have hk : kids = .nil := kn (by
        cases q : opensK k with
        | false => rfl
        | true =>
         simp only [opensK,inR,Bool.and_eq_true,decide_eq_true_eq] at q
         simp only [followsK,inR,Bool.and_eq_false_iff,decide_eq_false_iff_not] at hf2
         omega)
       subst hk
       simp [hf2, c5, c6, c7, c11, c12, okF]
end
end
end Go.Proofs.YtjpfgafdjlkblaaGreat
