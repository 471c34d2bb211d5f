/- The calculus: a range over a function: the loop's statement, and slices.Backward. No condition. -/
import Derived.Test.YtjpfgafdjlkblaaGreatSimT
namespace Go.Sim
open Go
section
variable {P : Program} {n : Nat}

theorem StRel.ec {s : ASt} {a : Act} {w w' : World} (h : StRel s a w) (hk : Ec w w') (hd : DefOk s.H.dom a.defers w') : StRel s a w' :=
  ⟨hd, h.n, fun t => (h.tm t).ec hk, h.heap.ec hk⟩

theorem aops_then {r0 : Option Nat} {im : Nat → Bool} {ops : Array Oper} {Q : Exit → Act → World → Prop} {rest : List Oper} {K : Tm → AHeap → Prop} : ∀ (l : List Oper) (tm : Tm) (H : AHeap) (a : Act) (w : World), StRel ⟨n, tm, H⟩ a w → (∀ o ∈ l, dstOk n o.dst = true) →
    aops P im ops.toList l tm H K → (∀ tm' H' a' w', K tm' H' → StRel ⟨n, tm', H'⟩ a' w' → Ev H.dom w w' → Fresh H.dom H'.dom w → a'.defers = a.defers → wpListIn (WF r0) 0 P ops Q rest a' w') →
    wpListIn (WF r0) 0 P ops Q (l ++ rest) a w := by
  intro l
  induction l with
  | nil => intro tm H a w h _ hk hn; exact hn tm H a w hk h (.refl _ _) (.refl _ _) rfl
  | cons o l ih =>
    intro tm H a w h hd hk hn
    unfold aops at hk
    split at hk
    · rename_i g hg
      have hw := gA_sound h hg
      have hdo := hd o (by simp)
      rw [List.cons_append]
      unfold wpListIn
      rw [hw]
      cases g with
      | true =>
        simp only [if_true]
        refine wp_of_out h hdo (aopI_sound (s := ⟨n, tm, H⟩) h (hk.1 rfl)) ?_
        intro r H' a' w' h1 h2 h3 h4 h5
        exact ih _ _ _ _ h2 (fun o ho => hd o (by simp [ho])) h1 fun tm2 H2 a2 w2 k1 k2 k3 k4 k5 => hn tm2 H2 a2 w2 k1 k2 (h3.trans h4 k3) (h4.trans h3.size k4) (k5.trans h5)
      | false =>
        simp only [Bool.false_eq_true, if_false]
        refine ⟨fun _ _ => trivial, ih _ _ _ _ (h.undef hdo) (fun o ho => hd o (by simp [ho])) (hk.2 rfl) fun tm2 H2 a2 w2 k1 k2 k3 k4 k5 => hn tm2 H2 a2 w2 k1 k2 k3 k4 (k5.trans ?_)⟩
        cases o.dst <;> rfl
    · exact hk.elim

def Iter (P : Program) (gf : FuncId) (caps : List AV) (xs : List (List AV)) : Prop :=
  hasBody P gf = true ∧ ∀ (l : Nat) (J : Nat → AHeap → World → Prop) (Jx : AHeap → World → Prop) (lb : Array Value) (H : AHeap) (W : World),
    (∀ k H W, J k H W → HRel H W) → (∀ H W, Jx H W → HRel H W) →
    (∀ k H W W', J k H W → Ev H.dom W W' → HRel H W' → J k H W') → (∀ H W W', Jx H W → Ev H.dom W W' → HRel H W' → Jx H W') →
    J 0 H W → RelL H.dom W caps lb.toList →
    (∀ k x H W (args : Array Value), xs[k]? = some x → J k H W → RelL H.dom W x args.toList → YieldAt (WF none) 0 P l args W fun e W' => ∃ H', (∀ x v, Rel H.dom W x v → Rel H'.dom W' x v) ∧ ((e = .returned (.bool true) ∧ J (k + 1) H' W') ∨ (e = .returned (.bool false) ∧ Jx H' W'))) →
    CallsIn (WF none) 0 P gf (#[.func (.yield l) #[] #[]] ++ lb) W fun e W' => (∃ v, e = .returned v) ∧ ∃ H', J xs.length H' W' ∨ Jx H' W'

theorem callFunc_enter {gf : FuncId} (hB : hasBody P gf = true) (args : Array Value) (w : World) : (callFunc gf args).run P w = .ok (.enter gf args) w := by
  unfold hasBody at hB
  split at hB
  · rename_i fn hfn
    simp only [Bool.and_eq_true, Bool.not_eq_true', Option.isSome_iff_ne_none] at hB
    have hb : ¬ fn.body = none := hB.1
    have hn : ¬ fn.name = "runtime.NumGoroutine" := by simpa using hB.2
    simp [callFunc, hfn, hb, hn]
  · cases hB

theorem callsIn_any {F : Fence} {m k : Nat} {f : FuncId} {args : Array Value} {w : World} {R : Ending → World → Prop} (hF : ∀ d, F.room d) (h : CallsIn F m P f args w R) : CallsIn F k P f args w R :=
  ⟨h.1, fun cs _ => h.2 cs (hF _)⟩

def putL (tm : Tm) : List (Nat × AV) → Tm
  | [] => tm
  | (p, x) :: l => putL (upd tm p x) l

theorem rel_putL {O : Nat → Prop} {w : World} : ∀ (ps : List Nat) (xs : List AV) (vs : List Value) (tm : Tm) (tmps : Array Value), RelL O w xs vs → ps.length = xs.length → tmps.size = n → (∀ p ∈ ps, p < n) → (∀ t, Rel O w (tm t) (tmps.getD t undef)) →
    (((ps.zip vs).foldl (fun t (p, v) => t.setIfInBounds p v) tmps).size = n) ∧ ∀ t, Rel O w (putL tm (ps.zip xs) t) (((ps.zip vs).foldl (fun t (p, v) => t.setIfInBounds p v) tmps).getD t undef)
  | [], xs, vs, tm, tmps, h, hl, hs, hp, ht => ⟨hs, ht⟩
  | p :: ps, [], vs, tm, tmps, h, hl, hs, hp, ht => by simp at hl
  | p :: ps, x :: xs, [], tm, tmps, h, hl, hs, hp, ht => by have := h.1; simp at this
  | p :: ps, x :: xs, v :: vs, tm, tmps, h, hl, hs, hp, ht => by
    have hx := h.2 0 x v rfl rfl
    have h' : RelL O w xs vs := ⟨by have := h.1; simpa using this, fun i y u hy hu => h.2 (i + 1) y u (by simpa using hy) (by simpa using hu)⟩
    simp only [List.zip_cons_cons, List.foldl_cons, putL]
    refine rel_putL ps xs vs _ _ h' (by simpa using hl) (by simp [hs]) (fun q hq => hp q (by simp [hq])) fun t => ?_
    unfold upd
    by_cases e : t = p
    · subst e
      rw [if_pos rfl]
      have : t < tmps.size := by rw [hs]; exact hp t (by simp)
      simpa [Array.getD, this] using hx
    · rw [if_neg e]
      have e2 : (tmps.setIfInBounds p v).getD t undef = tmps.getD t undef := by
        simp only [Array.getD_eq_getD_getElem?, Array.getElem?_setIfInBounds]
        rw [if_neg (fun q => e q.symm)]
      rw [e2]; exact ht t

def rndQ (I : AHeap → Prop) (X : Exit → AHeap → Prop) : APost
  | .normal, _, H => I H
  | .ret, _, H => X .ret H
  | .exit id, _, H => X (.exit id) H
  | _, _, _ => False

theorem sim_rangeFunc {g : Operand} {ps : Array Nat} {assign body : Code} {tm : Tm} {H : AHeap} {K : APost} {gf : FuncId} {caps : List AV} {xs : List (List AV)} (hg : ev tm g = .fn gf [] caps) (hit : Iter P gf caps xs) (hps : ∀ p ∈ ps.toList, p < n) (hxs : ∀ x ∈ xs, x.length = ps.size)
    (I : Nat → AHeap → Prop) (X : Exit → AHeap → Prop) (h0 : I 0 H)
    (round : ∀ (k : Nat) (x : List AV) (H' : AHeap) (l : Nat), xs[k]? = some x → I k H' → SimAt (some l) P n assign (putL tm (ps.toList.zip x)) H' (fun e tm' H'' => e = .normal ∧ SimAt (some l) P n body tm' H'' (rndQ (I (k + 1)) X)))
    (hdone : ∀ H', I xs.length H' → K .normal tm H') (hret : ∀ H', X .ret H' → K .ret tm H') (hexit : ∀ id H', X (.exit id) H' → K (.exit id) tm H') :
    Sim P n (.rangeFunc g ps assign body) tm H K := by
  intro a w hs
  refine wpIn_rangeFunc fun fn _ => ?_
  have hev := rel_ev hs g
  simp only at hev
  rw [hg] at hev
  generalize hgv : a.eval g = gv at hev
  cases hev with
  | fn _ _ _ us lb e1 e2 e3 e4 =>
  have hus : us = #[] := by
    have : us.size = 0 := by simpa using e1
    exact Array.size_eq_zero_iff.1 this
  subst hus
  obtain ⟨hB, hit⟩ := hit
  obtain ⟨rec, hrec⟩ : ∃ rec : LoopState → Option Code → Loop, rec = fun st pe => { state := st, pending := pe, fn, tmps := a.tmps, params := ps, assign, body, defers := w.heap.size } := ⟨_, rfl⟩
  obtain ⟨W1, hW1⟩ : ∃ W1, (w.alloc (.deferred (some []))).alloc (.loop (rec .ready none)) = W1 := ⟨_, rfl⟩
  have hL1 : W1.heap[w.heap.size + 1]? = some (.loop (rec .ready none)) := by
    rw [← hW1]; have := World.alloc_heap_new (w.alloc (.deferred (some []))) (.loop (rec .ready none)); rwa [World.size_alloc] at this
  have hK1 : W1.heap[w.heap.size]? = some (.deferred (some [])) := by
    rw [← hW1]; exact (RowKit.Below.heap_alloc _ _ _ (by simp)).trans (World.alloc_heap_new w _)
  have hec1 : Ec w W1 := by rw [← hW1]; exact (ec_alloc _ _).trans (ec_alloc _ _)
  have hev1 : Ev H.dom w W1 := by rw [← hW1]; exact (ev_alloc _ _ _).trans (.refl _ _) (ev_alloc _ _ _)
  have nc : ∀ (st : LoopState) (pe : Option Code) (c : Array Value) (t : TypeId) (fr : Nat × Nat), Obj.loop (rec st pe) ≠ .cells c t fr := fun _ _ _ _ _ q => by cases q
  let a1 : Act := { a with defers := mark w.heap.size :: a.defers }
  let base : AHeap → World → Prop := fun H' W => StRel ⟨n, tm, H'⟩ a1 W ∧ Ev H.dom w W ∧ Fresh H.dom H'.dom w
  have hlN : ∀ H' W, base H' W → ¬ H'.dom w.heap.size := fun H' W hb => by
    obtain ⟨Ds, h1, h2, h3⟩ := hb.1.defers
    have : w.heap.size ∈ Ds := by
      cases Ds with
      | nil => simp [a1] at h1
      | cons D Ds => simp only [a1, List.map_cons, List.cons.injEq] at h1; have := h1.1; simp [mark] at this; simp [this]
    exact (h3 _ this).1
  have dom_lt : ∀ H' W, base H' W → ∀ r, W.heap[w.heap.size + 1]? = some (.loop r) → ¬ H'.dom (w.heap.size + 1) := fun H' W hb r hr hd => by
    unfold AHeap.dom at hd
    cases hk : H' (w.heap.size + 1) with
    | none => exact hd hk
    | some k =>
      by_cases hz : k.sz = 0
      · obtain ⟨ms, n, hc, _⟩ := hb.1.heap.mp _ k hk hz
        rw [hr] at hc; cases hc
      obtain ⟨c, hc, _⟩ := hb.1.heap.blk _ k hk hz
      rw [hr] at hc; cases hc
  have hdk : ∀ W, Ev H.dom w W → Fresh H.dom H.dom w → True := fun _ _ _ => trivial
  have base0 : base H W1 := by
    refine ⟨⟨?_, hs.n, fun t => (hs.tm t).ec hec1, hs.heap.ec hec1⟩, hev1, .refl _ _⟩
    obtain ⟨Ds, h1, h2, h3⟩ := hs.defers
    refine ⟨w.heap.size :: Ds, by simp [a1, h1], List.nodup_cons.2 ⟨fun hD => ?_, h2⟩, fun D hD => ?_⟩
    · have := (Array.getElem?_eq_some_iff.1 (h3 _ hD).2).1; omega
    · rcases List.mem_cons.1 hD with rfl | hD
      · exact ⟨fun q => by have := hs.heap.lt q; omega, hK1⟩
      · obtain ⟨q1, q2⟩ := h3 D hD
        have := (Array.getElem?_eq_some_iff.1 q2).1
        exact ⟨q1, (hev1.keep D this q1).trans q2⟩
  have basePut : ∀ H' W r o', base H' W → W.heap[w.heap.size + 1]? = some (.loop r) → base H' (W.putObj (w.heap.size + 1) o') := fun H' W r o' hb hr => by
    have hec := ec_put o' hr (fun _ _ _ q => by cases q)
    refine ⟨hb.1.ec hec ?_, hb.2.1.put o' (by omega) hr (fun _ _ _ q => by cases q), hb.2.2⟩
    obtain ⟨Ds, h1, h2, h3⟩ := hb.1.defers
    refine ⟨Ds, h1, h2, fun D hD => ⟨(h3 D hD).1, ?_⟩⟩
    have : D ≠ w.heap.size + 1 := fun q => by rw [q] at hD; have := (h3 _ hD).2; rw [hr] at this; cases this
    exact (World.putObj_heap_other this).trans (h3 D hD).2
  have baseStep : ∀ H' W H'' W', base H' W → Ev H'.dom W W' → Fresh H'.dom H''.dom W → HRel H'' W' → base H'' W' := fun H' W H'' W' hb he hf hh =>
    ⟨⟨hb.1.defers.step he hf, hb.1.n, fun t => (hb.1.tm t).step he hf, hh⟩, hb.2.1.trans hb.2.2 he, hb.2.2.trans hb.2.1.size hf⟩
  let J : Nat → AHeap → World → Prop := fun k H' W => I k H' ∧ base H' W ∧ W.heap[w.heap.size + 1]? = some (.loop (rec .ready none))
  let Jx : AHeap → World → Prop := fun H' W => ∃ (e : Exit) (c : Code), X e H' ∧ ((e = .ret ∧ c = .ret) ∨ (∃ id, e = .exit id ∧ c = .exit id)) ∧ base H' W ∧ W.heap[w.heap.size + 1]? = some (.loop (rec .done (some c)))
  refine ⟨w.heap.size + 1, [mark w.heap.size], W1, { target := .fn (.func gf) lb, args := #[.func (.yield (w.heap.size + 1)) #[] #[]] }, W1, gf,
    #[.func (.yield (w.heap.size + 1)) #[] #[]] ++ lb, W1, ?_, ?_, fun _ _ => trivial, ?_, fun q => by simp [WF, Fence.wide] at q, ?_⟩
  · rw [← hW1, hrec]; exact run_enterLoop_outer _ _ _ _ _
  · have hce : ∀ v, a.eval (.const v) = v := fun v => rfl
    simp [resolve, hgv, Deferred.ofValue, hce, rangeCall]
  · simp only [invoke]; exact callFunc_enter hB _ _
  refine callsIn_any (room_wf none) ((hit (w.heap.size + 1) J Jx lb H W1 (fun k H W h => h.2.1.1.heap) (fun H W h => by obtain ⟨_, _, _, _, hb, _⟩ := h; exact hb.1.heap) ?_ ?_ ⟨h0, base0, hL1⟩ ?_ ?_).mono ?_)
  · rintro k H' W W' ⟨h1, h2, h3⟩ he hh
    refine ⟨h1, baseStep H' W H' W' h2 he (.refl _ _) hh, (he.keep _ (Array.getElem?_eq_some_iff.1 h3).1 (dom_lt H' W h2 _ h3)).trans h3⟩
  · rintro H' W W' ⟨e, c, h1, h2, h3, h4⟩ he hh
    exact ⟨e, c, h1, h2, baseStep H' W H' W' h3 he (.refl _ _) hh, (he.keep _ (Array.getElem?_eq_some_iff.1 h4).1 (dom_lt H' W h3 _ h4)).trans h4⟩
  · have hl : RelL H.dom w caps lb.toList := ⟨by simpa using e2, fun i c v hc hv => e4 i c v hc (by simpa using hv)⟩
    exact hl.step hev1 (.refl _ _)
  · -- one round
    rintro k x H' W args hx ⟨hi, hb, hr⟩ hargs
    have hxl := hxs x (List.mem_of_getElem? hx)
    have hasz : args.size = ps.size := by have := hargs.1; simp at this; omega
    have hy := run_yield (P := P) (args := args) hr (by rw [hrec]; exact hasz)
    rw [hrec] at hy
    refine ⟨fn, _, assign, body, hy, ?_⟩
    have hz : ps.zip args = (ps.toList.zip args.toList).toArray := by
      apply Array.ext'; simp
    have hput := rel_putL (n := n) ps.toList x args.toList tm a.tmps hargs (by simp [hxl]) hs.n hps (fun t => hb.1.tm t)
    have htm : (ps.zip args).foldl (fun (tmps : Array Value) (x : Nat × Value) => match x with | (t, a) => tmps.setIfInBounds t a) a.tmps = ((ps.toList.zip args.toList).foldl (fun t (p, v) => t.setIfInBounds p v) a.tmps) := by
      rw [hz, List.foldl_toArray]
    rw [htm]
    have hst : StRel ⟨n, putL tm (ps.toList.zip x), H'⟩ { tmps := (ps.toList.zip args.toList).foldl (fun t (p, v) => t.setIfInBounds p v) a.tmps, defers := [] } W := ⟨.nil _ _, hput.1, hput.2, hb.1.heap⟩
    refine roundIn_of_wpIn (F := WF none) trivial ?_
    have hsim := round k x H' (w.heap.size + 1) hx hi _ _ hst
    refine wpIn_mono (F := WF (some (w.heap.size + 1))) hsim ?_
    rintro e aA wA ⟨tmA, HA, ⟨rfl, hbody⟩, sA, evA, frA, _⟩
    have hbA := baseStep H' W HA wA hb evA frA sA.heap
    have hrA := (evA.keep _ (Array.getElem?_eq_some_iff.1 hr).1 (dom_lt H' W hb _ hr)).trans hr
    refine ⟨_, run_beginRound hrA (by rw [hrec]), ?_⟩
    have hecB := ec_put (.loop { rec .ready none with state := .busy }) hrA (fun _ _ _ q => by cases q)
    have hbB := basePut HA wA _ (.loop { rec .ready none with state := .busy }) hbA hrA
    have hrB : (wA.putObj (w.heap.size + 1) (.loop { rec .ready none with state := .busy })).heap[w.heap.size + 1]? = some (.loop { rec .ready none with state := .busy }) := World.putObj_heap_same (Array.getElem?_eq_some_iff.1 hrA).1
    have hdA : aA.defers = [] ∨ True := .inr trivial
    have sB : StRel ⟨n, tmA, HA⟩ aA (wA.putObj (w.heap.size + 1) (.loop { rec .ready none with state := .busy })) := by
      refine sA.ec hecB ?_
      obtain ⟨Ds, q1, q2, q3⟩ := sA.defers
      refine ⟨Ds, q1, q2, fun D hD => ⟨(q3 D hD).1, ?_⟩⟩
      have : D ≠ w.heap.size + 1 := fun q => by rw [q] at hD; have := (q3 _ hD).2; rw [hrA] at this; cases this
      exact (World.putObj_heap_other this).trans (q3 D hD).2
    refine wpIn_mono (F := WF (some (w.heap.size + 1))) (hbody _ _ sB) ?_
    rintro e aC wC ⟨tmC, HC, hQ, sC, evC, frC, _⟩
    have hbC := baseStep HA _ HC wC hbB evC frC sC.heap
    have hrC := (evC.keep _ (Array.getElem?_eq_some_iff.1 hrB).1 (dom_lt HA _ hbB _ hrB)).trans hrB
    have fin : ∀ (jump : Option Code), (Instr.endRound (w.heap.size + 1) jump).run P wC = .ok (.bool jump.isNone) (wC.putObj (w.heap.size + 1) (.loop (rec (if jump.isNone then .ready else .done) jump))) ∧
        base HC (wC.putObj (w.heap.size + 1) (.loop (rec (if jump.isNone then .ready else .done) jump))) ∧ (wC.putObj (w.heap.size + 1) (.loop (rec (if jump.isNone then .ready else .done) jump))).heap[w.heap.size + 1]? = some (.loop (rec (if jump.isNone then .ready else .done) jump)) ∧
        (∀ x v, Rel H'.dom W x v → Rel HC.dom (wC.putObj (w.heap.size + 1) (.loop (rec (if jump.isNone then .ready else .done) jump))) x v) := fun jump => by
      have := run_endRound (P := P) jump hrC
      rw [hrec] at this ⊢
      refine ⟨this, ?_, World.putObj_heap_same (Array.getElem?_eq_some_iff.1 hrC).1, fun x v hr0 => ?_⟩
      · exact basePut HC wC _ _ hbC hrC
      · exact (((hr0.step evA frA).ec (by rw [hrec] at hecB; exact hecB)).step (by rw [hrec] at evC; exact evC) (by rw [hrec] at frC; exact frC)).ec (ec_put _ hrC (fun _ _ _ q => by cases q))
    cases e with
    | normal =>
      obtain ⟨f1, f2, f3, f4⟩ := fin none
      exact ⟨_, _, f1, HC, f4, .inl ⟨rfl, hQ, f2, f3⟩⟩
    | ret =>
      obtain ⟨f1, f2, f3, f4⟩ := fin (some .ret)
      exact ⟨_, _, f1, HC, f4, .inr ⟨rfl, .ret, .ret, hQ, .inl ⟨rfl, rfl⟩, f2, f3⟩⟩
    | exit id =>
      obtain ⟨f1, f2, f3, f4⟩ := fin (some (.exit id))
      exact ⟨_, _, f1, HC, f4, .inr ⟨rfl, .exit id, .exit id, hQ, .inr ⟨id, rfl, rfl⟩, f2, f3⟩⟩
    | goto t => exact hQ.elim
    | panic ch => exact hQ.elim
    | outgrown => exact hQ.elim
  · -- behind the iterator
    rintro e W2 ⟨⟨v, rfl⟩, H', h⟩
    have dn : DNew a w a1 := ⟨[w.heap.size], rfl, fun D hD => by simp at hD; omega⟩
    rcases h with ⟨hi, hb, hr⟩ | ⟨e, c, hx, hc, hb, hr⟩
    · refine ⟨none, _, by have := run_endLoop (P := P) hr (by rw [hrec]; simp); rw [hrec] at this; exact this, ?_⟩
      have hb2 := basePut H' W2 _ (.loop { rec .ready none with state := .exhausted }) hb hr
      rw [hrec] at hb2
      exact ⟨tm, H', hdone H' hi, hb2.1, hb2.2.1, hb2.2.2, dn⟩
    · refine ⟨some c, _, by have := run_endLoop (P := P) hr (by rw [hrec]; simp); rw [hrec] at this; exact this, ?_⟩
      have hb2 := basePut H' W2 _ (.loop { rec .done (some c) with state := .exhausted }) hb hr
      rw [hrec] at hb2
      rcases hc with ⟨rfl, rfl⟩ | ⟨id, rfl, rfl⟩
      · exact wpIn_ret ⟨tm, H', hret H' hx, hb2.1, hb2.2.1, hb2.2.2, dn⟩
      · exact wpIn_exit ⟨tm, H', hexit id H' hx, hb2.1, hb2.2.1, hb2.2.2, dn⟩
end
end Go.Sim
