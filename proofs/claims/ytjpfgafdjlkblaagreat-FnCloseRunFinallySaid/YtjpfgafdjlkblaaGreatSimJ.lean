/- The calculus: a region's operations, in the order of the text. What an operation looks at. No condition. -/
import Derived.Test.YtjpfgafdjlkblaaGreatSimI
namespace Go.Sim
open Go

def gA (ops : List Oper) (tm : Nat → AV) (g : Option (Nat × Bool)) : Option Bool :=
  match g with
  | none => some true
  | some (j, want) => match (ops[j]?).bind (·.dst) with
    | some d => match tm d with
      | .lit (.bool b) => some (b == want)
      | .lit _ => some false
      | _ => none
    | none => none

def boxI (P : Program) (H : AHeap) (t : TypeId) (x : AV) (K : AV → AHeap → Prop) : Prop :=
  match tinfo P t with
  | some ti => ti.size ≠ 0 ∧ x.row.length = ti.size ∧ x.row.all AV.one = true ∧ K (.vptr [x.row] 0 0) H
  | none => False
def buildSliceI (P : Program) (H : AHeap) (t : TypeId) (n : Nat) (parts : List (Nat × AV)) (K : AV → AHeap → Prop) : Prop :=
  match telem P t with
  | some e => match tinfo P e with
    | some ti => ti.size ≠ 0 ∧ n * ti.size ≤ 16777216 ∧ n ≤ maxLen ∧ (match buildRows ti.size (List.replicate n (ti.zero.map ofCell)) parts with
      | some rows => rows.length = n ∧ K (.vsl rows true) H
      | none => False)
    | none => False
  | none => False
def aopI (P : Program) (im : Nat → Bool) (tm : Nat → AV) (H : AHeap) (d : Option Nat) (op : Op) (K : AV → AHeap → Prop) : Prop :=
  match (match d with
    | some s => im s
    | none => false), op with
  | true, .box t x => boxI P H t (ev tm x) K
  | true, .buildSlice t n parts => buildSliceI P H t n (parts.toList.map fun p => (p.1, ev tm p.2)) K
  | _, op => aop P tm H op K

def aops (P : Program) (im : Nat → Bool) (ops : List Oper) : List Oper → (Nat → AV) → AHeap → ((Nat → AV) → AHeap → Prop) → Prop
  | [], tm, H, K => K tm H
  | o :: rest, tm, H, K => match gA ops tm o.guard with
    | some g => (g = true → aopI P im tm H o.dst o.op fun r H' => aops P im ops rest (updO tm o.dst r) H' K) ∧ (g = false → aops P im ops rest (updO tm o.dst (.lit undef)) H K)
    | none => False

def Post (n : Nat) (O0 : Nat → Prop) (w0 : World) (ds : List Deferred) (K : (Nat → AV) → AHeap → Prop) (e : Exit) (a : Act) (w : World) : Prop :=
  e = .normal ∧ ∃ tm H, K tm H ∧ StRel ⟨n, tm, H⟩ a w ∧ Ev O0 w0 w ∧ Fresh O0 H.dom w0 ∧ a.defers = ds

section
variable {P : Program} {a : Act} {w : World}

theorem gA_sound {ops : Array Oper} {n : Nat} {tm : Nat → AV} {H : AHeap} (h : StRel ⟨n, tm, H⟩ a w) {o : Oper} {g : Bool} (hg : gA ops.toList tm o.guard = some g) : Region.wanted o (yielded ops a.tmps) = g := by
  unfold gA at hg
  unfold Region.wanted
  split at hg
  · rename_i e
    cases hg
    rw [e]
  · rename_i j want e
    rw [e]
    simp only
    cases hd : (ops.toList[j]?).bind (·.dst) with
    | none => rw [hd] at hg; cases hg
    | some d =>
      rw [hd] at hg
      simp only at hg
      have hd' : (ops[j]?).bind (·.dst) = some d := by simpa using hd
      have hr := h.tm d
      simp only at hr
      unfold yielded
      rw [hd']
      simp only [Option.bind_some]
      cases ht : tm d <;> rw [ht] at hg hr <;> first | (cases hg; done) | skip
      rename_i v
      generalize hv : a.tmps.getD d undef = u at hr
      cases hr
      cases hq : a.tmps[d]? with
      | none =>
        have : v = undef := by rw [← hv]; simp [Array.getD_eq_getD_getElem?, hq]
        subst this
        simp [undef] at hg
        subst hg; rfl
      | some x =>
        have : v = x := by rw [← hv]; simp [Array.getD_eq_getD_getElem?, hq]
        subst this
        cases v <;> simp at hg ⊢ <;> first | (subst hg; rfl) | skip

theorem callsIn_wf {r : Option Nat} {m : Nat} {P : Program} {f : FuncId} {args : Array Value} {w : World} {R : Ending → World → Prop} (h : Calls P f args w R) : CallsIn (WF r) m P f args w R :=
  (callsIn_wide (n := m)).2 h
theorem room_wf (r : Option Nat) (k : Nat) : (WF r).room k := fun d hd => by cases hd
theorem out_sem {P : Program} {O : Nat → Prop} {w : World} {K : AV → AHeap → Prop} {ρ : Operand → Value} {o : Oper} (r : Option Nat) (h : Out P O w K ((execOp ρ o).run P w)) : o.semAt r ρ = execOp ρ o := by
  cases r with
  | none => rfl
  | some l =>
    refine Oper.semAt_eq _ _ _ fun c hc => ?_
    have e : execOp ρ o = (do let d ← resolve ρ c o.type; pure (.defer d)) := by unfold execOp; rw [hc]
    rw [e] at h
    simp only [Sem.run_bind, Sem.run_pure] at h
    cases hr : (resolve ρ c o.type).run P w with
    | ok d w' => rw [hr] at h; cases h
    | halt x w' => rw [hr] at h; cases h

theorem wp_of_out {r0 : Option Nat} {n : Nat} {tm : Nat → AV} {H : AHeap} (h : StRel ⟨n, tm, H⟩ a w) {o : Oper} (hd : dstOk n o.dst = true) {K : AV → AHeap → Prop} {next : Act → World → Prop} {Q : Exit → Act → World → Prop}
    (ho : Out P H.dom w K ((execOp a.eval o).run P w))
    (hn : ∀ r H' a' w', K r H' → StRel ⟨n, updO tm o.dst r, H'⟩ a' w' → Ev H.dom w w' → Fresh H.dom H'.dom w → a'.defers = a.defers → next a' w') : o.wpIn (WF r0) 0 P a w next Q := by
  have hdf : ∀ v, (a.put o.dst v).defers = a.defers := fun v => by cases o.dst <;> rfl
  refine ⟨fun _ _ => trivial, ?_⟩
  rw [out_sem _ ho]
  generalize (execOp a.eval o).run P w = res at ho
  cases ho with
  | value r H' v w' h1 h2 h3 h4 h5 => exact hn r H' _ _ h1 (h.put (s := ⟨n, tm, H⟩) hd h4 h5 h2 h3) h4 h5 (hdf _)
  | skip H' w' h1 h3 h4 h5 => exact hn _ H' _ _ h1 (h.put (s := ⟨n, tm, H⟩) hd h4 h5 (.lit undef) h3) h4 h5 (hdf _)
  | enter f args hc =>
    rw [Oper.uponIn_enter]
    refine ⟨fun q => by simp [WF, Fence.wide] at q, callsIn_wf (hc.mono ?_)⟩
    rintro e w' ⟨v, r, H', rfl, h1, h2, h3, h4, h5⟩
    exact hn r H' _ _ h1 (h.put (s := ⟨n, tm, H⟩) hd h4 h5 h2 h3) h4 h5 (hdf _)

theorem aopI_sound {P : Program} {a : Act} {w : World} {s : ASt} {K : AV → AHeap → Prop} {im : Nat → Bool} {o : Oper} (h : StRel s a w) (hk : aopI P im s.tm s.H o.dst o.op K) : Out P s.H.dom w K ((execOp a.eval o).run P w) := by
  unfold aopI at hk
  split at hk
  · rename_i t x _ eo
    unfold boxI at hk
    split at hk
    · rename_i ti ht
      obtain ⟨hz0, h1, h2, hk⟩ := hk
      have hb : boxA P s.H t (ev s.tm x) (fun r H' => ∃ b, s.H b = none ∧ r = .ptr b ti.size 0 0 ∧ H' = s.H.set b ⟨ti.size, t, [(ev s.tm x).row]⟩) := by
        unfold boxA; rw [ht]; exact ⟨hz0, h1, h2, fun b hb => ⟨b, hb, rfl, rfl⟩⟩
      have hb' : aop P s.tm s.H o.op (fun r H' => ∃ b, s.H b = none ∧ r = .ptr b ti.size 0 0 ∧ H' = s.H.set b ⟨ti.size, t, [(ev s.tm x).row]⟩) := by rw [eo]; exact hb
      have ho := aop_sound (P := P) (o := o) h hb'
      generalize (execOp a.eval o).run P w = res at ho
      cases ho with
      | value r H' v w' h1 h2 h3 h4 h5 =>
        obtain ⟨b, hn, rfl, rfl⟩ := h1
        have := rel_frozen h3 (AHeap.set_self ..) rfl h2
        rw [set_del hn] at this
        exact .value _ s.H v w' hk this (h3.sub (le_set hn)) h4 (.refl _ _)
      | skip H' w' h1 h3 h4 h5 => obtain ⟨b, _, e, _⟩ := h1; cases e
      | enter f args hc =>
        refine .enter f args (hc.mono ?_)
        rintro e w' ⟨v, r, H', rfl, ⟨b, hn, rfl, rfl⟩, h2, h3, h4, h5⟩
        have := rel_frozen h3 (AHeap.set_self ..) rfl h2
        rw [set_del hn] at this
        exact ⟨v, _, s.H, rfl, hk, this, h3.sub (le_set hn), h4, .refl _ _⟩
    · exact hk.elim
  · rename_i t n parts _ eo
    unfold buildSliceI at hk
    split at hk
    · rename_i e he
      split at hk
      · rename_i ti ht
        obtain ⟨hz0, q1, q2, hk⟩ := hk
        split at hk
        · rename_i rows hrows
          obtain ⟨hlen, hk⟩ := hk
          have hb : buildSliceA P s.H t n (parts.toList.map fun p => (p.1, ev s.tm p.2)) (fun r H' => ∃ b, s.H b = none ∧ r = .sl b ti.size 0 n true ∧ H' = s.H.set b ⟨ti.size, e, rows⟩) := by
            unfold buildSliceA; rw [he]; simp only [ht, hrows]; exact ⟨hz0, q1, q2, fun b hb => ⟨b, hb, rfl, rfl⟩⟩
          have hb' : aop P s.tm s.H o.op (fun r H' => ∃ b, s.H b = none ∧ r = .sl b ti.size 0 n true ∧ H' = s.H.set b ⟨ti.size, e, rows⟩) := by rw [eo]; exact hb
          have ho := aop_sound (P := P) (o := o) h hb'
          generalize (execOp a.eval o).run P w = res at ho
          have fin : ∀ {b : Nat} {v : Value} {w' : World}, s.H b = none → Rel (s.H.set b ⟨ti.size, e, rows⟩).dom w' (.sl b ti.size 0 n true) v → HRel (s.H.set b ⟨ti.size, e, rows⟩) w' → Rel s.H.dom w' (.vsl rows true) v := by
            intro b v w' hn h2 h3
            have := rel_frozen_sl h3 (AHeap.set_self ..) rfl (by simp [hlen]) h2
            rw [set_del hn] at this
            simpa [← hlen] using this
          cases ho with
          | value r H' v w' h1 h2 h3 h4 h5 =>
            obtain ⟨b, hn, rfl, rfl⟩ := h1
            exact .value _ s.H v w' hk (fin hn h2 h3) (h3.sub (le_set hn)) h4 (.refl _ _)
          | skip H' w' h1 h3 h4 h5 => obtain ⟨b, _, e, _⟩ := h1; cases e
          | enter f args hc =>
            refine .enter f args (hc.mono ?_)
            rintro e w' ⟨v, r, H', rfl, ⟨b, hn, rfl, rfl⟩, h2, h3, h4, h5⟩
            exact ⟨v, _, s.H, rfl, hk, fin hn h2 h3, h3.sub (le_set hn), h4, .refl _ _⟩
        · exact hk.elim
      · exact hk.elim
    · exact hk.elim
  · exact aop_sound h hk

theorem StRel.undef {n : Nat} {tm : Nat → AV} {H : AHeap} (h : StRel ⟨n, tm, H⟩ a w) {d : Option Tmp} (hd : dstOk n d = true) : StRel ⟨n, updO tm d (.lit undef), H⟩ (a.put d Go.undef) w :=
  h.put (s := ⟨n, tm, H⟩) hd (.refl _ _) (.refl _ _) (.lit _) h.heap

theorem aops_sound {r0 : Option Nat} {ds : List Deferred} {im : Nat → Bool} {ops : Array Oper} {n : Nat} {O0 : Nat → Prop} {w0 : World} {K : (Nat → AV) → AHeap → Prop} : ∀ (l : List Oper) (tm : Nat → AV) (H : AHeap) (a : Act) (w : World), StRel ⟨n, tm, H⟩ a w → (∀ o ∈ l, dstOk n o.dst = true) →
    Ev O0 w0 w → Fresh O0 H.dom w0 → a.defers = ds → aops P im ops.toList l tm H K → wpListIn (WF r0) 0 P ops (Post n O0 w0 ds K) l a w := by
  intro l
  induction l with
  | nil => intro tm H a w h _ he hf hds hk; exact ⟨rfl, tm, H, hk, h, he, hf, hds⟩
  | cons o rest ih =>
    intro tm H a w h hd he hf hds hk
    unfold aops at hk
    split at hk
    · rename_i g hg
      have hw := gA_sound h hg
      have hdo := hd o (by simp)
      unfold wpListIn
      rw [hw]
      cases g with
      | true =>
        simp only [if_true]
        refine wp_of_out h hdo (aopI_sound (s := ⟨n, tm, H⟩) h (hk.1 rfl)) ?_
        intro r H' a' w' h1 h2 h3 h4 h5
        exact ih _ _ _ _ h2 (fun o ho => hd o (by simp [ho])) (he.trans hf h3) (hf.trans he.size h4) (h5.trans hds) h1
      | false =>
        simp only [Bool.false_eq_true, if_false]
        exact ⟨fun _ _ => trivial, ih _ _ _ _ (h.undef hdo) (fun o ho => hd o (by simp [ho])) he hf (by rw [← hds]; cases o.dst <;> rfl) (hk.2 rfl)⟩
    · exact hk.elim

/-! ### What an operation looks at -/
theorem ev_upd {tm : Nat → AV} {d : Option Nat} {r : AV} {x : Operand} (h : ∀ e, d = some e → x ≠ .tmp e) : ev (updO tm d r) x = ev tm x := by
  cases x with
  | tmp t =>
    cases d with
    | none => rfl
    | some e =>
      have : t ≠ e := fun q => h e rfl (by rw [q])
      simp [ev, updO, upd, this]
  | _ => rfl

theorem updO_comm {tm : Nat → AV} {d e : Option Nat} {r q : AV} (h : ∀ k, d = some k → e ≠ some k) : updO (updO tm d r) e q = updO (updO tm e q) d r := by
  cases d with
  | none => rfl
  | some d =>
    cases e with
    | none => rfl
    | some e =>
      have hne : d ≠ e := fun q => h d rfl (by rw [q])
      funext t
      simp only [updO, upd]
      by_cases h1 : t = e <;> by_cases h2 : t = d <;> simp_all

theorem pureA_congr {H : AHeap} {tm tm' : Nat → AV} {o : Op} (h : ∀ x ∈ o.operands, ev tm x = ev tm' x) : pureA P H tm o = pureA P H tm' o := by
  have hl : ∀ (xs : Array Operand), (∀ x ∈ xs, ev tm x = ev tm' x) → xs.toList.map (ev tm) = xs.toList.map (ev tm') := fun xs hx => List.map_congr_left fun x hm => hx x (by simpa using hm)
  have ho : ∀ (x : Option Operand), (∀ y, x = some y → ev tm y = ev tm' y) → x.map (ev tm) = x.map (ev tm') := fun x hx => by
    cases x with
    | none => rfl
    | some y => simp [hx y rfl]
  cases o with
  | move x => simp only [pureA]; rw [h x (by simp [Op.operands])]
  | assign x => simp only [pureA]; rw [h x (by simp [Op.operands])]
  | pick c x y => simp only [pureA]; rw [h c (by simp [Op.operands]), h x (by simp [Op.operands]), h y (by simp [Op.operands])]
  | build t parts =>
    simp only [pureA]
    congr 1
    exact List.map_congr_left fun p hp => by rw [h p.2 (by simp only [Op.operands]; simp; exact ⟨p.1, by simpa using hp⟩)]
  | buildSlice t n parts =>
    simp only [pureA]
    congr 1
    exact List.map_congr_left fun p hp => by rw [h p.2 (by simp only [Op.operands]; simp; exact ⟨p.1, by simpa using hp⟩)]
  | load t x => simp only [pureA]; rw [h x (by simp [Op.operands])]
  | nilCheck x => simp only [pureA]; rw [h x (by simp [Op.operands])]
  | binOp op t x y yt => simp only [pureA]; rw [h x (by simp [Op.operands]), h y (by simp [Op.operands])]
  | unOp op t x => simp only [pureA]; rw [h x (by simp [Op.operands])]
  | convert src dst x => simp only [pureA]; rw [h x (by simp [Op.operands])]
  | makeFunc f first caps =>
    cases f <;> simp only [pureA]
    rw [hl first (fun x hx => h x (by simp [Op.operands, hx])), hl caps (fun x hx => h x (by simp [Op.operands, hx]))]
  | makeInterface t x => rfl
  | slice t x lo hi mx =>
    simp only [pureA]
    rw [h x (by simp [Op.operands]), ho lo (fun y hy => h y (by simp [Op.operands, hy])), ho hi (fun y hy => h y (by simp [Op.operands, hy])), ho mx (fun y hy => h y (by simp [Op.operands, hy]))]
  | fieldAddr t x f => simp only [pureA]; rw [h x (by simp [Op.operands])]
  | field t x f => simp only [pureA]; rw [h x (by simp [Op.operands])]
  | indexAddr t x i => simp only [pureA]; rw [h x (by simp [Op.operands]), h i (by simp [Op.operands])]
  | index t x i => simp only [pureA]; rw [h x (by simp [Op.operands]), h i (by simp [Op.operands])]
  | extract x i => simp only [pureA]; rw [h x (by simp [Op.operands])]
  | lookup t x i ok => simp only [pureA]; rw [h x (by simp [Op.operands]), h i (by simp [Op.operands])]
  | call c =>
    obtain ⟨callee, args, ts⟩ := c
    cases callee with
    | builtin b =>
      have ha : ∀ x ∈ args.toList, ev tm x = ev tm' x := fun x hx => h x (by simp [Op.operands, Call.operands]; simpa using hx)
      cases b <;> simp only [pureA]
      · split <;> first | (rename_i e1 _; rw [ha _ (by rw [e1]; simp)]) | rfl
      · split <;> rename_i heq <;> first | (rw [ha _ (by rw [heq]; simp), ha _ (by rw [heq]; simp)]) | rfl
      · split <;> rename_i heq <;> first | (rw [ha _ (by rw [heq]; simp), ha _ (by rw [heq]; simp)]) | rfl
    | _ => rfl
  | _ => rfl

theorem aop_congr {H : AHeap} {tm tm' : Nat → AV} {o : Op} {K : AV → AHeap → Prop} (h : ∀ x ∈ o.operands, ev tm x = ev tm' x) : aop P tm H o K = aop P tm' H o K := by
  have hp := pureA_congr (P := P) (H := H) h
  cases o with
  | alloc t => rfl
  | box t x => simp only [aop]; rw [h x (by simp [Op.operands])]
  | buildSlice t n parts =>
    simp only [aop]
    congr 1
    exact List.map_congr_left fun p hp => by rw [h p.2 (by simp only [Op.operands]; simp; exact ⟨p.1, by simpa using hp⟩)]
  | makeSlice t l c => simp only [aop]; rw [h l (by simp [Op.operands]), h c (by simp [Op.operands])]
  | store t p x => simp only [aop]; rw [h p (by simp [Op.operands]), h x (by simp [Op.operands])]
  | makeMap t r => cases r with
    | none => rfl
    | some y => simp only [aop]; rw [hp]
  | mapUpdate t m k v => simp only [aop]; rw [h m (by simp [Op.operands]), h k (by simp [Op.operands]), h v (by simp [Op.operands])]
  | call c =>
    obtain ⟨callee, args, ts⟩ := c
    cases callee with
    | builtin b =>
      have ha : ∀ x ∈ args.toList, ev tm x = ev tm' x := fun x hx => h x (by simp [Op.operands, Call.operands]; simpa using hx)
      cases b <;> simp only [aop] <;> first | (rw [hp]; done) | skip
      split <;> rename_i heq _ <;> first | (rw [ha _ (by rw [heq]; simp), ha _ (by rw [heq]; simp)]) | rfl
    | value f =>
      have hf := h f (by simp [Op.operands, Call.operands])
      have ha : args.toList.map (ev tm) = args.toList.map (ev tm') := List.map_congr_left fun x hx => h x (by simp [Op.operands, Call.operands]; right; simpa using hx)
      simp only [aop, hf, ha]
    | invoke r m => simp only [aop]; rw [hp]
  | _ => simp only [aop]; rw [hp]

def isLd : Op → Bool
  | .load .. => true
  | .lookup .. => true
  | _ => false

theorem pureA_heap {H L : AHeap} {tm : Nat → AV} {o : Op} (h : isLd o = false) : pureA P H tm o = pureA P L tm o := by
  cases o <;> first | rfl | (simp [isLd] at h; done) | skip
  case makeFunc f first caps => cases f <;> rfl
  case call c =>
    obtain ⟨callee, args, ts⟩ := c
    cases callee with
    | builtin b => cases b <;> rfl
    | _ => rfl

theorem keepA_mono {r : Option AV} {H : AHeap} {K K' : AV → AHeap → Prop} (h : ∀ r H, K r H → K' r H) (hk : keepA r H K) : keepA r H K' := by
  cases r with
  | none => exact hk
  | some r => exact h r H hk

theorem aop_mono {H : AHeap} {tm : Nat → AV} {o : Op} {K K' : AV → AHeap → Prop} (h : ∀ r H, K r H → K' r H) (hk : aop P tm H o K) : aop P tm H o K' := by
  unfold aop at *
  split at hk <;> rename_i heq
  · unfold allocA at *
    split at hk
    · rename_i ti ht; exact ⟨hk.1, fun b hb => h _ _ (hk.2 b hb)⟩
    · exact hk
  · unfold boxA at *
    split at hk
    · rename_i ti ht; exact ⟨hk.1, hk.2.1, hk.2.2.1, fun b hb => h _ _ (hk.2.2.2 b hb)⟩
    · exact hk
  · unfold buildSliceA at *
    split at hk
    · split at hk
      · refine ⟨hk.1, hk.2.1, hk.2.2.1, ?_⟩
        have := hk.2.2.2
        split at this
        · rename_i rows hr; exact fun b hb => h _ _ (this b hb)
        · exact this
      · exact hk
    · exact hk
  · unfold makeSliceA at *
    split at hk
    · split at hk
      · exact ⟨hk.1, hk.2.1, hk.2.2.1, hk.2.2.2.1, hk.2.2.2.2.1, fun b hb => h _ _ (hk.2.2.2.2.2 b hb)⟩
      · exact hk
    · exact hk
  · unfold storeA at *
    split at hk
    · refine ⟨hk.1, hk.2.1, ?_⟩
      have := hk.2.2
      split at this
      · exact h _ _ this
      · exact this
    · exact hk
  · unfold makeMapA at *
    exact fun b hb => h _ _ (hk b hb)
  · unfold putA at *
    split at hk
    · split at hk
      · refine ⟨hk.1, ?_⟩
        have := hk.2
        split at this
        · exact h _ _ this
        · exact this
      · exact hk
    · exact hk
  · split at hk
    · refine ⟨hk.1, ?_⟩
      have h2 := hk.2
      unfold appendA at *
      split at h2
      · split at h2
        · refine ⟨h2.1, h2.2.1, ?_⟩
          have h3 := h2.2.2
          split at h3
          · split at h3
            · obtain ⟨c0, c1, c2, c3, c4, c5, c6, hk⟩ := h3
              exact ⟨c0, c1, c2, c3, c4, c5, c6, fun b hb => h _ _ (hk b hb)⟩
            · exact h3
          · obtain ⟨c1, c2, c3, k0, k1⟩ := h3
            exact ⟨c1, c2, c3, fun e => h _ _ (k0 e), fun e => ⟨(k1 e).1, fun b hb => h _ _ ((k1 e).2 b hb)⟩⟩
          · exact h3
        · exact h2
      · exact h2
    · exact hk
  · split at hk
    · exact hk.mono h
    · exact hk
  · exact keepA_mono h hk

end
end Go.Sim
