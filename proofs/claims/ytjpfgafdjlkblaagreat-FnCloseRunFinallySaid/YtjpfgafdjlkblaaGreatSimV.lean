/- The calculus: the iterator of slices.Backward. No condition. -/
import Derived.Test.YtjpfgafdjlkblaaGreatSimU
namespace Go.Sim
open Go

theorem asInt {O : Nat → Prop} {w : World} {i : Int} {v : Value} (h : Rel O w (I i) v) : v = .int .i64 i := by cases h; rfl
theorem asBool {O : Nat → Prop} {w : World} {b : Bool} {v : Value} (h : Rel O w (B b) v) : v = .bool b := by cases h; rfl
theorem asYl {O : Nat → Prop} {w : World} {u v : Value} (h : Rel O w (.lit u) v) : v = u := by cases h; rfl

def backL {α : Type} [Inhabited α] (xv : α → AV) (l : List α) : List (List AV) := (List.range l.length).map fun (k : Nat) => [I ((l.length : Int) - 1 - (k : Int)), xv (l.getD (l.length - 1 - k) default)]

theorem back_iter {P : Program} {gf : FuncId} {fn : Func} {α : Type} [Inhabited α] {xv : α → AV} {l : List α} {cap : AV} {im : Nat → Bool} {r0 b0 r1 b1 r3 r2 : Nat} {ops0 ops1 ops2 ops3 : Array Oper} {co po : Oper} {ts : Array TypeId}
    (hf : P.funcs[gf]? = some fn) (hB : hasBody P gf = true)
    (hb : fn.body = some (.seq (.region r0 ops0 false) (.block b0 (.loop (.seq (.seq (.region r1 ops1 false) (.cond (.tmp 8) .skip (.exit b0))) (.seq (.block b1 (.seq (.region r3 ops3 false) (.cond (.tmp 18) .ret .skip))) (.region r2 ops2 false)))))))
    (hr : fn.results = #[]) (hn : fn.ntmps = 19)
    (d0 : (ops0.toList.all fun o => dstOk 19 o.dst) = true) (d1 : (ops1.toList.all fun o => dstOk 19 o.dst) = true) (d2 : (ops2.toList.all fun o => dstOk 19 o.dst) = true) (d3 : (ops3.toList.all fun o => dstOk 19 o.dst) = true)
    (h3 : ops3.toList = ops3.toList.take 6 ++ [co, po]) (hco : co.op = .call ⟨.value (.tmp 11), #[.tmp 12, .tmp 16], ts⟩) (hcd : co.dst = some 17) (hcg : co.guard = none)
    (H0 : ∀ tm H, tm 1 = cap → aops P im ops0.toList ops0.toList tm H fun tm' H' => H' = H ∧ tm' 0 = tm 0 ∧ tm' 1 = tm 1 ∧ tm' 3 = I ((l.length : Int) - 1))
    (H1 : ∀ tm H i, tm 3 = I i → aops P im ops1.toList ops1.toList tm H fun tm' H' => H' = H ∧ tm' 0 = tm 0 ∧ tm' 1 = tm 1 ∧ tm' 3 = I i ∧ tm' 8 = B (decide (0 ≤ i)))
    (H3 : ∀ tm H i, tm 1 = cap → tm 3 = I i → 0 ≤ i → i < l.length → aops P im ops3.toList (ops3.toList.take 6) tm H fun tm' H' => H' = H ∧ tm' 0 = tm 0 ∧ tm' 1 = tm 1 ∧ tm' 3 = I i ∧ tm' 11 = tm 0 ∧ tm' 12 = I i ∧ tm' 16 = xv (l.getD i.toNat default))
    (H4 : ∀ tm H b, tm 17 = B b → aops P im ops3.toList [po] tm H fun tm' H' => H' = H ∧ tm' 0 = tm 0 ∧ tm' 1 = tm 1 ∧ tm' 3 = tm 3 ∧ tm' 18 = B (!b))
    (H2 : ∀ tm H i, tm 3 = I i → 0 ≤ i → i < l.length → aops P im ops2.toList ops2.toList tm H fun tm' H' => H' = H ∧ tm' 0 = tm 0 ∧ tm' 1 = tm 1 ∧ tm' 3 = I (i - 1)) :
    Iter P gf [cap] (backL xv l) := by
  refine ⟨hB, fun lp J Jx lb H W jh jxh js jxs hJ hlb hy => ?_⟩
  rw [List.all_eq_true] at d0 d1 d2 d3
  have hlbs : lb.size = 1 := by have := hlb.1; simpa using this
  refine callsIn_of_wp (F := WF none) hf hb trivial ?_ rfl
  let y : Value := .func (.yield lp) #[] #[]
  let St : Tm → AHeap → Act → World → Prop := fun tm H a w => StRel ⟨19, tm, H⟩ a w ∧ a.defers = [] ∧ tm 0 = .lit y ∧ tm 1 = cap
  have hst0 : St (initTm [.lit y, cap]) H { tmps := (#[.func (.yield lp) #[] #[]] ++ lb) ++ Array.replicate (fn.ntmps - (#[Value.func (.yield lp) #[] #[]] ++ lb).size) undef, defers := [] } W := by
    refine ⟨⟨.nil _ _, by simp [hn, hlbs], fun t => ?_, jh _ _ _ hJ⟩, rfl, rfl, rfl⟩
    obtain ⟨v, hv1, hv2⟩ := hlb.get (i := 0) rfl
    have hv3 : lb[0]? = some v := by simpa using hv1
    show Rel H.dom W (initTm [.lit y, cap] t) _
    rcases t with _ | _ | t
    · simp only [initTm, List.getD_cons_zero]
      have : ((#[Value.func (.yield lp) #[] #[]] ++ lb) ++ Array.replicate (fn.ntmps - (#[Value.func (.yield lp) #[] #[]] ++ lb).size) undef).getD 0 undef = y := by
        rw [Array.getD_eq_getD_getElem?, Array.getElem?_append_left (by simp; omega), Array.getElem?_append_left (by simp)]; rfl
      rw [this]; exact .lit _
    · simp only [initTm, List.getD_cons_succ, List.getD_cons_zero]
      have : ((#[Value.func (.yield lp) #[] #[]] ++ lb) ++ Array.replicate (fn.ntmps - (#[Value.func (.yield lp) #[] #[]] ++ lb).size) undef).getD (0 + 1) undef = v := by
        rw [Array.getD_eq_getD_getElem?, Array.getElem?_append_left (by simp [hlbs]), Array.getElem?_append_right (by simp)]; simp [hv3]
      rw [this]; exact hv2
    · simp only [initTm, List.getD_cons_succ, List.getD_nil]
      have : ((#[Value.func (.yield lp) #[] #[]] ++ lb) ++ Array.replicate (fn.ntmps - (#[Value.func (.yield lp) #[] #[]] ++ lb).size) undef).getD (t + 1 + 1) undef = undef := by
        rw [Array.getD_eq_getD_getElem?, Array.getElem?_append_right (by simp [hlbs]), Array.getElem?_replicate]
        split <;> rfl
      rw [this]; exact .lit _
  have hres : ∀ (a : Act) (w : World), (results fn a.tmps).run P w = .ok (.tuple #[]) w := by
    intro a w
    simp [results, hr]
  have fin : ∀ (a : Act) (w : World) (H' : AHeap), a.defers = [] → (J (backL xv l).length H' w ∨ Jx H' w) → a.defers = [] ∧ ∃ v, (results fn a.tmps).run P w = .ok v w ∧ ((∃ u, Ending.returned v = .returned u) ∧ ∃ H', J (backL xv l).length H' w ∨ Jx H' w) :=
    fun a w H' h1 h2 => ⟨h1, _, hres a w, ⟨_, rfl⟩, H', h2⟩
  refine wpIn_seq (wpIn_mono (wpIn_region_list (aops_sound (r0 := none) ops0.toList _ _ _ _ hst0.1 d0 (.refl _ _) (.refl _ _) rfl (H0 _ _ rfl))) ?_)
  rintro e a1 w1 ⟨rfl, tm1, H1', ⟨rfl, q0, q1, q3⟩, s1, ev1, _, df1⟩
  refine wpIn_block (wpIn_loop (fun a w => ∃ (k : Nat) (tm : Tm) (H : AHeap), k ≤ l.length ∧ St tm H a w ∧ tm 3 = I ((l.length : Int) - 1 - k) ∧ J k H w)
    (fun a _ => match a.tmps.getD 3 undef with
      | .int _ i => (i + 1).toNat
      | _ => 0) ⟨0, tm1, H1', Nat.zero_le _, ⟨s1, df1, q0, q1⟩, by rw [q3]; simp, js _ _ _ _ hJ ev1 s1.heap⟩ ?_)
  rintro a w ⟨k, tm, H', hk, ⟨s, hdf, t0, t1⟩, t3, hJk⟩
  have hm : (match a.tmps.getD 3 undef with
      | .int _ i => (i + 1).toNat
      | _ => 0) = l.length - k := by
    have := s.tm 3
    simp only [t3] at this
    rw [asInt this]; show (_ : Int).toNat = _; omega
  rw [hm]
  refine wpIn_seq (wpIn_seq (wpIn_mono (wpIn_region_list (aops_sound (r0 := none) ops1.toList _ _ _ _ s d1 (.refl _ _) (.refl _ _) hdf (H1 _ _ _ t3))) ?_))
  rintro e a2 w2 ⟨rfl, tm2, H2', ⟨rfl, u0, u1, u3, u8⟩, s2, ev2, _, df2⟩
  have hJ2 := js _ _ _ _ hJk ev2 s2.heap
  have hc8 := s2.tm 8
  simp only [u8] at hc8
  have hcv : a2.eval (.tmp 8) = .bool (decide ((0 : Int) ≤ (l.length : Int) - 1 - k)) := asBool hc8
  refine wpIn_cond_split hcv (fun hb => wpIn_skip ?_) (fun hb => wpIn_exit ?_)
  · have hkl : k < l.length := by simp at hb; omega
    have hx : (backL xv l)[k]? = some [I ((l.length : Int) - 1 - k), xv (l.getD (l.length - 1 - k) default)] := by simp [backL, hkl]
    refine wpIn_seq (wpIn_block (wpIn_seq ?_))
    refine wpIn_mono (wpIn_region_list (Q := Exit.then (fun a' w' => (∃ (k' : Nat) (tm : Tm) (H : AHeap) (b : Bool), St tm H a' w' ∧ tm 3 = I ((l.length : Int) - 1 - k) ∧ tm 18 = B (!b) ∧ ((b = true ∧ J (k + 1) H w') ∨ (b = false ∧ Jx H w')))) fun _ _ _ => False) ?_) ?_
    · rw [h3]
      refine aops_then (im := im) (ops3.toList.take 6) tm2 H2' a2 w2 s2 (fun o ho => d3 o (List.mem_of_mem_take ho)) (H3 _ _ _ (u1.trans t1) u3 (by omega) (by omega)) ?_
      rintro tm4 H4' a4 w4 ⟨rfl, p0, p1, p3, p11, p12, p16⟩ s4 ev4 _ df4
      have hJ4 := js _ _ _ _ hJ2 ev4 s4.heap
      have e0 : tm4 11 = .lit y := by rw [p11, u0, t0]
      have hv11 := s4.tm 11
      have hv12 := s4.tm 12
      have hv16 := s4.tm 16
      simp only [e0] at hv11
      simp only [p12] at hv12
      simp only [p16] at hv16
      have hf11 : a4.eval (.tmp 11) = y := asYl hv11
      have hnat : ((l.length : Int) - 1 - k).toNat = l.length - 1 - k := by omega
      rw [hnat] at hv16
      have hargs : RelL H4'.dom w4 [I ((l.length : Int) - 1 - k), xv (l.getD (l.length - 1 - k) default)] (#[a4.eval (.tmp 12), a4.eval (.tmp 16)]).toList := .cons hv12 (.cons hv16 (.nil _ _))
      obtain ⟨fn', tmps', as', bd', hyr, hround⟩ := hy k _ _ _ _ hx hJ4 hargs
      unfold wpListIn
      have hw : Region.wanted co (yielded ops3 a4.tmps) = true := by unfold Region.wanted; rw [hcg]
      rw [hw]
      simp only [if_true]
      refine ⟨fun _ _ => trivial, ?_⟩
      have hexec : (co.semAt (WF none).round a4.eval).run P w4 = .ok (.round lp fn' tmps' as' bd') w4 := by
        have : co.semAt (WF none).round a4.eval = execOp a4.eval co := rfl
        rw [this]
        unfold execOp
        rw [hco]
        simp only [resolve, hf11, y, Deferred.ofValue, Sem.run_bind, Sem.run_pure, Result.andThen_ok, invoke]
        simpa using hyr
      rw [hexec, Oper.uponIn_round]
      refine ⟨fun q => by simp [WF, Fence.wide] at q, ?_⟩
      have hr2 : RoundIn (WF none) (0 - 1) P lp fn' tmps' as' bd' w4 _ := hround
      refine hr2.mono ?_
      rintro e w5 ⟨H5, hup, hcase⟩
      have go : ∀ b : Bool, ((b = true ∧ J (k + 1) H5 w5) ∨ (b = false ∧ Jx H5 w5)) → wpListIn (WF none) 0 P ops3 (Exit.then (fun a' w' => (∃ (k' : Nat) (tm : Tm) (H : AHeap) (b : Bool), St tm H a' w' ∧ tm 3 = I ((l.length : Int) - 1 - k) ∧ tm 18 = B (!b) ∧ ((b = true ∧ J (k + 1) H w') ∨ (b = false ∧ Jx H w')))) fun _ _ _ => False) [po] (a4.put co.dst (.bool b)) w5 := by
        rintro b hbJ
        have hh5 : HRel H5 w5 := by
          rcases hbJ with ⟨_, h⟩ | ⟨_, h⟩
          · exact jh _ _ _ h
          · exact jxh _ _ h
        have s5 : StRel ⟨19, upd tm4 17 (B b), H5⟩ (a4.put co.dst (.bool b)) w5 := by
          rw [hcd]
          have hdef : a4.defers = [] := df4.trans df2
          refine ⟨?_, by simp [Act.put, s4.n], fun t => ?_, hh5⟩
          · show DefOk _ a4.defers _
            rw [hdef]; exact .nil _ _
          · show Rel H5.dom w5 (upd tm4 17 (B b) t) _
            unfold upd
            have h17 : 17 < a4.tmps.size := by rw [s4.n]; show 17 < 19; omega
            by_cases ht : t = 17
            · subst ht
              rw [if_pos rfl]
              simpa [Act.put, Array.getD, h17] using Rel.lit (Value.bool b)
            · rw [if_neg ht]
              have e : (a4.put (some 17) (.bool b)).tmps.getD t undef = a4.tmps.getD t undef := by
                simp only [Act.put, Array.getD_eq_getD_getElem?, Array.getElem?_setIfInBounds]
                rw [if_neg (fun e => ht e.symm)]
              rw [e]; exact hup _ _ (s4.tm t)
        have hpo : ∀ o ∈ [po], dstOk 19 o.dst = true := fun o ho => d3 o (by rw [h3]; simp at ho; simp [ho])
        have := aops_then (r0 := none) (im := im) (ops := ops3) (rest := []) (Q := Exit.then (fun a' w' => (∃ (k' : Nat) (tm : Tm) (H : AHeap) (b : Bool), St tm H a' w' ∧ tm 3 = I ((l.length : Int) - 1 - k) ∧ tm 18 = B (!b) ∧ ((b = true ∧ J (k + 1) H w') ∨ (b = false ∧ Jx H w')))) fun _ _ _ => False)
          [po] _ _ _ _ s5 hpo (H4 _ _ b (by simp [upd])) (by
            rintro tm6 H6 a6 w6 ⟨rfl, v0, v1, v3, v18⟩ s6 ev6 _ df6
            refine ⟨k, tm6, H6, b, ⟨s6, df6.trans ?_, ?_, ?_⟩, ?_, v18, ?_⟩
            · rw [hcd]; exact df4.trans df2
            · rw [v0]; simp only [upd]; rw [if_neg (by omega), p0, u0, t0]
            · rw [v1]; simp only [upd]; rw [if_neg (by omega), p1, u1, t1]
            · rw [v3]; simp only [upd]; rw [if_neg (by omega), p3]
            · rcases hbJ with ⟨h1, h2⟩ | ⟨h1, h2⟩
              · exact .inl ⟨h1, js _ _ _ _ h2 ev6 s6.heap⟩
              · exact .inr ⟨h1, jxs _ _ _ h2 ev6 s6.heap⟩)
        simpa using this
      rcases hcase with ⟨he, h⟩ | ⟨he, h⟩
      · subst he; exact go true (.inl ⟨rfl, h⟩)
      · subst he; exact go false (.inr ⟨rfl, h⟩)
    · rintro e a7 w7 hq
      cases e with
      | normal =>
        obtain ⟨_, tm7, H7, b, ⟨s7, df7, z0, z1⟩, z3, z18, hcase⟩ := hq
        have hc18 := s7.tm 18
        simp only [z18] at hc18
        have hcv : a7.eval (.tmp 18) = .bool (!b) := asBool hc18
        refine wpIn_cond_split hcv (fun hbb => wpIn_ret ?_) (fun hbb => wpIn_skip ?_)
        · have hbf : b = false := by simpa using hbb
          rcases hcase with ⟨h1, _⟩ | ⟨_, h2⟩
          · rw [h1] at hbf; cases hbf
          · exact fin a7 w7 H7 df7 (.inr h2)
        · have hbt : b = true := by simpa using hbb
          rcases hcase with ⟨_, h2⟩ | ⟨h1, _⟩
          · refine wpIn_mono (wpIn_region_list (aops_sound (r0 := none) ops2.toList _ _ _ _ s7 d2 (.refl _ _) (.refl _ _) df7 (H2 _ _ _ z3 (by omega) (by omega)))) ?_
            rintro e a8 w8 ⟨rfl, tm8, H8, ⟨rfl, x0, x1, x3⟩, s8, ev8, _, df8⟩
            refine ⟨⟨k + 1, tm8, H8, hkl, ⟨s8, df8, x0.trans z0, x1.trans z1⟩, by rw [x3]; congr 1; simp; omega, js _ _ _ _ h2 ev8 s8.heap⟩, ?_⟩
            have := s8.tm 3
            simp only [x3] at this
            rw [asInt this]; show (_ : Int).toNat < _; omega
          · rw [h1] at hbt; cases hbt
      | _ => exact hq.elim
  · have hkl : k = l.length := by simp at hb; omega
    show Exit.inBlock b0 _ (.exit b0) a2 w2
    simp only [Exit.inBlock, if_true]
    exact fin a2 w2 H2' df2 (.inl (by rw [hkl] at hJ2; simpa [backL] using hJ2))
theorem backL_get {α : Type} [Inhabited α] {xv : α → AV} {l : List α} {k : Nat} {x : List AV} (h : (backL xv l)[k]? = some x) : k < l.length ∧ x = [I ((l.length : Int) - 1 - (k : Int)), xv (l.getD (l.length - 1 - k) default)] := by
  have hk := lt_of_get h
  simp only [backL, List.length_map, List.length_range] at hk
  refine ⟨hk, ?_⟩
  simp [backL, hk] at h
  exact h.symm
theorem backL_len {α : Type} [Inhabited α] {xv : α → AV} {l : List α} : ∀ x ∈ backL xv l, x.length = 2 := by
  intro x hx
  obtain ⟨k, hk⟩ := List.getElem?_of_mem hx
  rw [(backL_get hk).2]; rfl
theorem backL_length {α : Type} [Inhabited α] {xv : α → AV} {l : List α} : (backL xv l).length = l.length := by simp [backL]
section
variable {P : Program} {n : Nat} {fz : Nat → List Nat} {im : Nat → Bool} {tm : Tm} {H : AHeap} {K : APost} {I' : AHeap → Prop} {X : Exit → AHeap → Prop}
theorem rq_normal : rndQ I' X .normal tm H = I' H := rfl
theorem rq_ret : rndQ I' X .ret tm H = X .ret H := rfl
theorem rq_exit {id : Nat} : rndQ I' X (.exit id) tm H = X (.exit id) H := rfl
theorem aw_range {g : Operand} {ps : Array Nat} {as b : Code} : awp P n fz im (.rangeFunc g ps as b) tm H K = SimT P n (.rangeFunc g ps as b) tm H K .mk := rfl
theorem putL_nil : putL tm [] = tm := rfl
theorem putL_cons {p : Nat} {x : AV} {l : List (Nat × AV)} : putL tm ((p, x) :: l) = putL (upd tm p x) l := rfl
end
end Go.Sim
