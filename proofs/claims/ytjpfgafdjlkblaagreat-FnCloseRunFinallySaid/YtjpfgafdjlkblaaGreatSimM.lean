/- The calculus: code, loops, functions. No condition. -/
import Derived.Test.YtjpfgafdjlkblaaGreatSimLA
namespace Go.Sim
open Go

abbrev Tm := Nat → AV
abbrev APost := Exit → Tm → AHeap → Prop

def SimAt (r0 : Option Nat) (P : Program) (n : Nat) (c : Code) (tm : Tm) (H : AHeap) (K : APost) : Prop :=
  ∀ (a : Act) (w : World), StRel ⟨n, tm, H⟩ a w → c.wpIn (WF r0) 0 P (fun e a' w' => ∃ tm' H', K e tm' H' ∧ StRel ⟨n, tm', H'⟩ a' w' ∧ Ev H.dom w w' ∧ Fresh H.dom H'.dom w ∧ DNew a w a') a w
def Sim (P : Program) (n : Nat) (c : Code) (tm : Tm) (H : AHeap) (K : APost) : Prop := SimAt none P n c tm H K

section
variable {r0 : Option Nat} {P : Program} {n : Nat} {tm : Tm} {H : AHeap} {K : APost}

theorem sim_mono {c : Code} {K' : APost} (h : SimAt r0 P n c tm H K) (hk : ∀ e tm H, K e tm H → K' e tm H) : SimAt r0 P n c tm H K' :=
  fun a w hs => wpIn_mono (h a w hs) fun e a' w' ⟨tm', H', h1, h2⟩ => ⟨tm', H', hk _ _ _ h1, h2⟩

theorem sim_skip (h : K .normal tm H) : SimAt r0 P n .skip tm H K := fun _ _ hs => wpIn_skip ⟨tm, H, h, hs, .refl _ _, .refl _ _, .same rfl⟩
theorem sim_ret (h : K .ret tm H) : SimAt r0 P n .ret tm H K := fun _ _ hs => wpIn_ret ⟨tm, H, h, hs, .refl _ _, .refl _ _, .same rfl⟩
theorem sim_exit {id : Nat} (h : K (.exit id) tm H) : SimAt r0 P n (.exit id) tm H K := fun _ _ hs => wpIn_exit ⟨tm, H, h, hs, .refl _ _, .refl _ _, .same rfl⟩

def sq (F : Tm → AHeap → Prop) (K : APost) : APost
  | .normal, tm, H => F tm H
  | e, tm, H => K e tm H

theorem sim_seq {x y : Code} (h : SimAt r0 P n x tm H (sq (fun tm H => SimAt r0 P n y tm H K) K)) : SimAt r0 P n (.seq x y) tm H K := by
  intro a w hs
  refine wpIn_seq (wpIn_mono (h a w hs) ?_)
  rintro e a' w' ⟨tm', H', h1, h2, h3, h4, h5⟩
  cases e with
  | normal =>
    show y.wpIn (WF r0) 0 P _ a' w'
    refine wpIn_mono (h1 a' w' h2) ?_
    rintro e a'' w'' ⟨tm'', H'', k1, k2, k3, k4, k5⟩
    exact ⟨tm'', H'', k1, k2, h3.trans h4 k3, h4.trans h3.size k4, h5.trans h3.size k5⟩
  | _ => exact ⟨tm', H', h1, h2, h3, h4, h5⟩

theorem sim_cond {c : Operand} {x y : Code} {b : Bool} (hc : ev tm c = .lit (.bool b)) (ht : b = true → SimAt r0 P n x tm H K) (hf : b = false → SimAt r0 P n y tm H K) : SimAt r0 P n (.cond c x y) tm H K := by
  intro a w hs
  have hr := rel_ev hs c
  simp only at hr
  rw [hc] at hr
  generalize hv : a.eval c = v at hr
  cases hr
  exact wpIn_cond_split hv (fun e => ht e a w hs) (fun e => hf e a w hs)

def exB (id : Nat) (K : APost) : APost
  | .exit i, tm, H => if i = id then K .normal tm H else K (.exit i) tm H
  | e, tm, H => K e tm H

theorem sim_block {id : Nat} {c : Code} (h : SimAt r0 P n c tm H (exB id K)) : SimAt r0 P n (.block id c) tm H K := by
  intro a w hs
  refine wpIn_block (wpIn_mono (h a w hs) ?_)
  rintro e a' w' ⟨tm', H', h1, h2, h3, h4⟩
  cases e with
  | exit i =>
    simp only [Exit.inBlock]
    simp only [exB] at h1
    split
    · rename_i e; rw [if_pos e] at h1; exact ⟨tm', H', h1, h2, h3, h4⟩
    · rename_i e; rw [if_neg e] at h1; exact ⟨tm', H', h1, h2, h3, h4⟩
  | _ => exact ⟨tm', H', h1, h2, h3, h4⟩

theorem sim_region {id : Nat} {ops : Array Oper} {F : Tm → AHeap → Prop} (hd : (ops.toList.all fun o => dstOk n o.dst) = true) {im : Nat → Bool} (h : aops P im ops.toList ops.toList tm H F) (hk : ∀ tm H, F tm H → K .normal tm H) : SimAt r0 P n (.region id ops false) tm H K := by
  intro a w hs
  rw [List.all_eq_true] at hd
  have h1 := wpIn_region_list (id := id) (aops_sound (r0 := r0) (n := n) ops.toList tm H a w hs hd (.refl _ _) (.refl _ _) rfl h)
  refine wpIn_mono h1 ?_
  rintro e a' w' ⟨rfl, tm', H', k1, k2, k3, k4, k5⟩
  exact ⟨tm', H', hk _ _ k1, k2, k3, k4, .same k5⟩

def ADraw (P : Program) (ops : List Oper) (tm : Tm) (H : AHeap) (F : Tm → AHeap → Prop) : Prop :=
  (∃ qs qv tags Hp, tagsOfQ qs ops = some tags ∧ AHeap.le Hp H ∧ aopsD P ops tags qv Hp ops.zipIdx tm H F) ∨
  ∃ qs qv tags Hp f o, tagsF qs f ops = some tags ∧ ops[f]? = some o ∧ AHeap.le Hp H ∧ aopsT P ops tags qv Hp qs (o, f) (ops.zipIdx.drop (f + 1)) (ops.zipIdx.take f) tm H F

theorem sim_draw {id : Nat} {ops : Array Oper} {F : Tm → AHeap → Prop} (hm : P.follows .mixedOrders = true) (hd : (ops.toList.all fun o => dstOk n o.dst) = true) (h : ADraw P ops.toList tm H F) (hk : ∀ tm H, F tm H → K .normal tm H) : SimAt r0 P n (.region id ops true) tm H K := by
  intro a w hs
  rw [List.all_eq_true] at hd
  rcases h with ⟨qs, qv, tags, Hp, h1, h2, h3⟩ | ⟨qs, qv, tags, Hp, f, o, h1, h0, h2, h3⟩
  · refine wpIn_mono (wp_draw hm h1 hd hs h2 h3) ?_
    rintro e a' w' ⟨rfl, tm', H', k1, k2, k3, k4, k5⟩
    exact ⟨tm', H', hk _ _ k1, k2, k3, k4, .same k5⟩
  · refine wpIn_mono (wp_float hm h1 hd h0 hs h2 h3) ?_
    rintro e a' w' ⟨rfl, tm', H', k1, k2, k3, k4, k5⟩
    exact ⟨tm', H', hk _ _ k1, k2, k3, k4, .same k5⟩

theorem sim_loop {c : Code} (I : Nat → Tm → AHeap → Prop) (m0 : Nat) (h0 : I m0 tm H) (round : ∀ m tm H, I m tm H → SimAt r0 P n c tm H (sq (fun tm' H' => ∃ m', m' < m ∧ I m' tm' H') K)) : SimAt r0 P n (.loop c) tm H K := by
  intro a w hs b k cs hro hb hr
  have key : ∀ m tm H a w, I m tm H → StRel ⟨n, tm, H⟩ a w →
      ∃ e a' w', (∃ tm' H', K e tm' H' ∧ StRel ⟨n, tm', H'⟩ a' w' ∧ Ev H.dom w w' ∧ Fresh H.dom H'.dom w ∧ DNew a w a') ∧ ArrivesIn (Machine.fenced P (WF r0)) P (lone (b.atR a (.code c :: .inLoop c :: k)) cs w) b k cs e a' w' := by
    intro m
    induction m using Nat.strongRecOn with
    | _ m ih =>
      intro tm H a w hI hs
      obtain ⟨e, a₁, w₁, ⟨tm₁, H₁, hq, hs₁, he₁, hf₁, hd₁⟩, harr⟩ := round m tm H hI a w hs b (.inLoop c :: k) cs hro hb hr
      cases e with
      | normal =>
        obtain ⟨m', hlt, hI₁⟩ := hq
        obtain ⟨e₂, a₂, w₂, ⟨tm₂, H₂, hq₂, hs₂, he₂, hf₂, hd₂⟩, harr₂⟩ := ih m' hlt tm₁ H₁ a₁ w₁ hI₁ hs₁
        exact ⟨e₂, a₂, w₂, ⟨tm₂, H₂, hq₂, hs₂, he₁.trans hf₁ he₂, hf₁.trans he₁.size hf₂, hd₁.trans he₁.size hd₂⟩, .of_steps (StepsIn.trans harr (.one (fenced_calm hb hr rfl) stepR_inLoop)) harr₂⟩
      | exit id => exact ⟨_, a₁, w₁, ⟨tm₁, H₁, hq, hs₁, he₁, hf₁, hd₁⟩, .pass (x := .inLoop c) rfl (fun _ _ => .inl (by simp)) harr⟩
      | goto l => exact ⟨_, a₁, w₁, ⟨tm₁, H₁, hq, hs₁, he₁, hf₁, hd₁⟩, .pass (x := .inLoop c) rfl (fun _ _ => .inl (by simp)) harr⟩
      | ret => exact ⟨_, a₁, w₁, ⟨tm₁, H₁, hq, hs₁, he₁, hf₁, hd₁⟩, .pass (x := .inLoop c) rfl (fun _ _ => .inl (by simp)) harr⟩
      | panic ch => exact ⟨_, a₁, w₁, ⟨tm₁, H₁, hq, hs₁, he₁, hf₁, hd₁⟩, .pass (x := .inLoop c) rfl (fun _ _ => .inl (by simp)) harr⟩
      | outgrown => exact ⟨_, a₁, w₁, ⟨tm₁, H₁, hq, hs₁, he₁, hf₁, hd₁⟩, .pass (x := .inLoop c) rfl (fun _ _ => .inl (by simp)) harr⟩
  obtain ⟨e, a', w', hq, harr⟩ := key m0 tm H a w h0 hs
  exact ⟨e, a', w', hq, .of_steps (.one (fenced_calm hb hr rfl) stepR_loop) harr⟩

/-! ### Blocks that are written no more -/
def frz : List Nat → Tm → AHeap → (Tm → AHeap → Prop) → Prop
  | [], tm, H, K => K tm H
  | t :: l, tm, H, K => match tm t with
    | .ptr b sz i j => match H b with
      | some k => k.sz = sz ∧ frz l (upd tm t (.vptr k.es i j)) (H.del b) K
      | none => False
    | .sl b sz off len cl => match H b with
      | some k => k.sz = sz ∧ off + len ≤ k.es.length ∧ frz l (upd tm t (.vsl ((k.es.drop off).take len) cl)) (H.del b) K
      | none => False
    | _ => False

theorem frz_sound {F : Tm → AHeap → Prop} {a : Act} {w : World} : ∀ (l : List Nat) (tm : Tm) (H : AHeap), StRel ⟨n, tm, H⟩ a w → frz l tm H F → ∃ tm' H', F tm' H' ∧ StRel ⟨n, tm', H'⟩ a w ∧ H'.le H
  | [], tm, H, hs, h => ⟨tm, H, h, hs, AHeap.le_refl H⟩
  | t :: l, tm, H, hs, h => by
    have other : ∀ (b : Nat) (x : AV), Rel (H.del b).dom w x (a.tmps.getD t undef) → StRel ⟨n, upd tm t x, H.del b⟩ a w := by
      intro b x hx
      refine ⟨hs.defers.sub fun b' hb' => (AHeap.del_le H b).dom hb', hs.n, fun u => ?_, hs.heap.sub (AHeap.del_le H b)⟩
      show Rel (H.del b).dom w (upd tm t x u) _
      unfold upd
      split
      · rename_i e; subst e; exact hx
      · exact (hs.tm u).sub fun b' hb' => (AHeap.del_le H b).dom hb'
    have ht := hs.tm t
    simp only at ht
    unfold frz at h
    split at h
    · rename_i b sz i j e
      rw [e] at ht
      split at h
      · rename_i k hb
        obtain ⟨tm', H', h1, h2, h3⟩ := frz_sound l _ _ (other b _ (rel_frozen hs.heap hb h.1 ht)) h.2
        exact ⟨tm', H', h1, h2, AHeap.le_trans h3 (AHeap.del_le H b)⟩
      · exact h.elim
    · rename_i b sz off len cl e
      rw [e] at ht
      split at h
      · rename_i k hb
        obtain ⟨tm', H', h1, h2, h3⟩ := frz_sound l _ _ (other b _ (rel_frozen_sl hs.heap hb h.1 h.2.1 ht)) h.2.2
        exact ⟨tm', H', h1, h2, AHeap.le_trans h3 (AHeap.del_le H b)⟩
      · exact h.elim
    · exact h.elim

/-! ### Code, walked -/
def awp (P : Program) (n : Nat) (fz : Nat → List Nat) (im : Nat → Bool) : Code → Tm → AHeap → APost → Prop
  | .skip, tm, H, K => K .normal tm H
  | .region id ops draw, tm, H, K => match draw with
    | false => aops P im ops.toList ops.toList tm H fun tm' H' => frz (fz id) tm' H' (K .normal)
    | true => ADraw P ops.toList tm H fun tm' H' => frz (fz id) tm' H' (K .normal)
  | .seq x y, tm, H, K => awp P n fz im x tm H (sq (fun tm' H' => awp P n fz im y tm' H' K) K)
  | .cond c x y, tm, H, K => match ev tm c with
    | .lit (.bool b) => (b = true → awp P n fz im x tm H K) ∧ (b = false → awp P n fz im y tm H K)
    | _ => False
  | .block id c, tm, H, K => awp P n fz im c tm H (exB id K)
  | .loop c, tm, H, K => Sim P n (.loop c) tm H K
  | .rangeFunc f ps as b, tm, H, K => Sim P n (.rangeFunc f ps as b) tm H K
  | .exit id, tm, H, K => K (.exit id) tm H
  | .ret, tm, H, K => K .ret tm H
  | _, _, _, _ => False

def codeOk (n : Nat) : Code → Bool
  | .region _ ops _ => ops.toList.all fun o => dstOk n o.dst
  | .seq x y => codeOk n x && codeOk n y
  | .cond _ x y => codeOk n x && codeOk n y
  | .block _ c => codeOk n c
  | _ => true

def codeFlat : Code → Bool
  | .seq x y => codeFlat x && codeFlat y
  | .cond _ x y => codeFlat x && codeFlat y
  | .block _ c => codeFlat c
  | .loop _ => false
  | .rangeFunc .. => false
  | _ => true
theorem awp_soundAt (hm : P.follows .mixedOrders = true) {fz : Nat → List Nat} {im : Nat → Bool} : ∀ (c : Code) (tm : Tm) (H : AHeap) (K : APost), codeOk n c = true → (r0 = none ∨ codeFlat c = true) → awp P n fz im c tm H K → SimAt r0 P n c tm H K := by
  intro c
  induction c with
  | skip => intro tm H K _ _ h; exact sim_skip h
  | region id ops draw =>
    intro tm H K hc _ h
    have fin : ∀ {F : Tm → AHeap → Prop} (tm : Tm) (H : AHeap), (∀ K' : APost, (∀ tm H, F tm H → K' .normal tm H) → SimAt r0 P n (.region id ops draw) tm H K') → (∀ tm H, F tm H → frz (fz id) tm H (K .normal)) → SimAt r0 P n (.region id ops draw) tm H K := by
      intro F tm H h1 h2 a w hs
      refine wpIn_mono (h1 (fun e tm H => e = .normal ∧ F tm H) (fun _ _ h => ⟨rfl, h⟩) a w hs) ?_
      rintro e a' w' ⟨tm', H', ⟨rfl, k0⟩, k1, k2, k3, k4⟩
      obtain ⟨tm'', H'', g1, g2, g3⟩ := frz_sound (fz id) tm' H' k1 (h2 _ _ k0)
      exact ⟨tm'', H'', g1, g2, k2, fun b hb => k3 b (g3.dom hb), k4⟩
    cases draw with
    | false => exact fin tm H (fun K' hk => sim_region hc h hk) (fun _ _ h => h)
    | true => exact fin tm H (fun K' hk => sim_draw hm hc h hk) (fun _ _ h => h)
  | seq x y ihx ihy =>
    intro tm H K hc hfl h
    simp only [codeOk, Bool.and_eq_true] at hc
    simp only [codeFlat, Bool.and_eq_true] at hfl
    refine sim_seq (sim_mono (ihx tm H _ hc.1 (hfl.imp_right (·.1)) h) ?_)
    intro e tm' H' hk
    cases e with
    | normal => exact ihy tm' H' K hc.2 (hfl.imp_right (·.2)) hk
    | _ => exact hk
  | cond c x y ihx ihy =>
    intro tm H K hc hfl h
    simp only [codeOk, Bool.and_eq_true] at hc
    simp only [codeFlat, Bool.and_eq_true] at hfl
    unfold awp at h
    split at h
    · rename_i b e
      exact sim_cond e (fun hb => ihx tm H K hc.1 (hfl.imp_right (·.1)) (h.1 hb)) (fun hb => ihy tm H K hc.2 (hfl.imp_right (·.2)) (h.2 hb))
    · exact h.elim
  | block id c ih => intro tm H K hc hfl h; exact sim_block (ih tm H _ hc hfl h)
  | loop c =>
    intro tm H K _ hfl h
    rcases hfl with rfl | hfl
    · exact h
    · cases hfl
  | rangeFunc f ps as b =>
    intro tm H K _ hfl h
    rcases hfl with rfl | hfl
    · exact h
    · cases hfl
  | exit id => intro tm H K _ _ h; exact sim_exit h
  | ret => intro tm H K _ _ h; exact sim_ret h
  | _ => intro tm H K _ _ h; exact h.elim
theorem awp_sound (hm : P.follows .mixedOrders = true) {fz : Nat → List Nat} {im : Nat → Bool} (c : Code) (tm : Tm) (H : AHeap) (K : APost) (h1 : codeOk n c = true) (h2 : awp P n fz im c tm H K) : Sim P n c tm H K :=
  awp_soundAt hm c tm H K h1 (.inl rfl) h2

/-! ### What holds no cells may turn -/
structure Ec (w w' : World) : Prop where
  os : w'.os = w.os
  tape : w'.tape = w.tape
  output : w'.output = w.output
  size : w.heap.size ≤ w'.heap.size
  cells : ∀ (b : Nat) (c : Array Value) (t : TypeId) (fr : Nat × Nat), w.heap[b]? = some (.cells c t fr) → w'.heap[b]? = some (.cells c t fr)
  maps : ∀ (b : Nat) (ms : Array MapEntry) (n : Nat), w.heap[b]? = some (.map ms n) → w'.heap[b]? = some (.map ms n)
theorem Ec.refl (w : World) : Ec w w := ⟨rfl, rfl, rfl, Nat.le_refl _, fun _ _ _ _ h => h, fun _ _ _ h => h⟩
theorem Ec.trans {w w1 w2 : World} (h : Ec w w1) (k : Ec w1 w2) : Ec w w2 :=
  ⟨k.os.trans h.os, k.tape.trans h.tape, k.output.trans h.output, Nat.le_trans h.size k.size, fun b c t fr hc => k.cells b c t fr (h.cells b c t fr hc), fun b c t hc => k.maps b c t (h.maps b c t hc)⟩
theorem ec_put {w : World} {l : Nat} {o : Obj} (o' : Obj) (h : w.heap[l]? = some o) (ho : ∀ c t fr, o ≠ .cells c t fr) (hm : ∀ ms n, o ≠ .map ms n := by intro _ _ q; cases q) : Ec w (w.putObj l o') :=
  ⟨rfl, rfl, rfl, by simp, fun b c t fr hc => by
    have : b ≠ l := fun e => by subst e; rw [h] at hc; cases hc; exact ho _ _ _ rfl
    exact (World.putObj_heap_other this).trans hc, fun b ms n hc => by
    have : b ≠ l := fun e => by subst e; rw [h] at hc; cases hc; exact hm _ _ rfl
    exact (World.putObj_heap_other this).trans hc⟩
theorem ec_alloc (w : World) (o : Obj) : Ec w (w.alloc o) :=
  ⟨rfl, rfl, rfl, by simp, fun b c t fr hc => by
    have := (Array.getElem?_eq_some_iff.1 hc).1
    exact (RowKit.Below.heap_alloc w o b this).trans hc, fun b ms n hc => by
    have := (Array.getElem?_eq_some_iff.1 hc).1
    exact (RowKit.Below.heap_alloc w o b this).trans hc⟩
theorem Ec.cell {w w' : World} (h : Ec w w') {a : Addr} {v : Value} (hc : w.cell? a = some v) : w'.cell? a = some v := by
  unfold World.cell? at *
  cases hb : w.heap[a.block]? with
  | none => simp [hb] at hc
  | some o =>
    cases o with
    | cells c t fr => rw [h.cells _ c t fr hb]; rw [hb] at hc; exact hc
    | _ => simp [hb] at hc
theorem Rel.ec {O : Nat → Prop} {w w' : World} {x : AV} {v : Value} (h : Rel O w x v) (hk : Ec w w') : Rel O w' x v := by
  induction h with
  | top v => exact .top v
  | lit v => exact .lit v
  | agg cs vs hs h1 _ ih => exact .agg cs vs hs h1 ih
  | tup cs vs hs _ ih => exact .tup cs vs hs ih
  | fn f as bs us vs h1 h2 _ _ ih1 ih2 => exact .fn f as bs us vs h1 h2 ih1 ih2
  | ptr b sz i j hz => exact .ptr b sz i j hz
  | sl b sz off len cap cl c t fr h1 h2 h3 h4 h5 hz => exact .sl b sz off len cap cl c t fr h1 h2 h3 (hk.cells _ _ _ _ h4) h5 hz
  | vptr es i j b o sz g h1 h2 h3 h4 h5 _ ih =>
    exact .vptr es i j b o sz g h1 (Nat.lt_of_lt_of_le h2 hk.size) h3 (fun p q r x hp hq => hk.cell (h4 p q r x hp hq)) h5 ih
  | vnil cl => exact .vnil cl
  | vsl es cl b o sz cap g h1 h2 h3 h4 h5 h6 h7 h8 _ ih =>
    exact .vsl es cl b o sz cap g h1 h2 h3 h4 (Nat.lt_of_lt_of_le h5 hk.size) h6 (fun p q r x hp hq => hk.cell (h7 p q r x hp hq)) h8 ih
  | nonnil t v => exact .nonnil t v
theorem HRel.ec {H : AHeap} {w w' : World} (h : HRel H w) (hk : Ec w w') : HRel H w' := by
  refine ⟨fun b k hb hz => ?_, fun b k hb hz => ?_⟩
  · obtain ⟨ms, n, m1, m2⟩ := h.mp b k hb hz
    exact ⟨ms, n, hk.maps _ _ _ m1, m2⟩
  obtain ⟨c, g1, g2, g3, g4⟩ := h.blk b k hb hz
  refine ⟨c, hk.cells _ _ _ _ g1, g2, g3, fun p q r x hp hq => ?_⟩
  obtain ⟨v, k1, k2, k3⟩ := g4 p q r x hp hq
  exact ⟨v, k1, k2, k3.ec hk⟩
theorem Ev.put {O : Nat → Prop} {w W : World} {l : Nat} {o : Obj} (o' : Obj) (h : Ev O w W) (hl : w.heap.size ≤ l) (hb : W.heap[l]? = some o) (ho : ∀ c t fr, o ≠ .cells c t fr) : Ev O w (W.putObj l o') := by
  refine ⟨h.os, h.tape, h.output, by simp; exact h.size, fun b hb' hn => ?_, fun b c t fr hc => ?_⟩
  · exact (World.putObj_heap_other (by omega)).trans (h.keep b hb' hn)
  · obtain ⟨c', h1, h2⟩ := h.shape b c t fr hc
    refine ⟨c', ?_, h2⟩
    have : b ≠ l := fun e => by subst e; rw [hb] at h1; cases h1; exact ho _ _ _ rfl
    exact (World.putObj_heap_other this).trans h1

/-! ### Functions -/
def resA (P : Program) (H : AHeap) (tm : Tm) : List ResultVar → Option (List AV)
  | [] => some []
  | .tmp t :: r => match resA P H tm r with
    | some l => some (tm t :: l)
    | none => none
  | .cell p ty :: r => match ldA P H ty (tm p), resA P H tm r with
    | some x, some l => some (x :: l)
    | _, _ => none
def oneA : List AV → AV
  | [x] => x
  | l => .tup l
def initTm (args : List AV) : Tm := fun t => args.getD t (.lit undef)
def retR (P : Program) (rs : List ResultVar) (Q : AV → AHeap → Prop) (tm : Tm) (H : AHeap) : Prop :=
  ∃ fl, frz fl tm H fun tm H => match resA P H tm rs with
    | some l => ∃ H', AHeap.le H' H ∧ Q (oneA l) H'
    | none => False
def retQ (P : Program) (rs : List ResultVar) (Q : AV → AHeap → Prop) : APost
  | .normal, tm, H | .ret, tm, H => retR P rs Q tm H
  | _, _, _ => False

def resF (a : Act) : ResultVar → Sem Value
  | .tmp t => pure (a.tmps.getD t undef)
  | .cell p t => do loadVar t (← asAddr (a.tmps.getD p undef))

theorem resA_sound {a : Act} {w : World} (hs : StRel ⟨n, tm, H⟩ a w) : ∀ (rs : List ResultVar) (l : List AV), resA P H tm rs = some l →
    ∃ vs : List Value, (rs.mapM (resF a)).run P w = .ok vs w ∧ RelL H.dom w l vs
  | [], l, h => by cases h; exact ⟨[], rfl, RelL.nil _ _⟩
  | .tmp t :: r, l, h => by
    simp only [resA] at h
    cases hr : resA P H tm r with
    | none => simp [hr] at h
    | some l' =>
      simp only [hr] at h
      cases h
      obtain ⟨vs, h1, h2⟩ := resA_sound hs r l' hr
      exact ⟨a.tmps.getD t undef :: vs, by simp only [List.mapM_cons, resF, Sem.run_bind, Sem.run_pure, Result.andThen_ok, h1], .cons (hs.tm t) h2⟩
  | .cell p t :: r, l, h => by
    simp only [resA] at h
    split at h
    · rename_i x l' hx hr
      cases h
      obtain ⟨vs, h1, h2⟩ := resA_sound hs r l' hr
      obtain ⟨u, g1, g2⟩ := ldA_sound (hs.tm p) hs.heap hx
      have hptr : ∃ ad, a.tmps.getD p undef = .pointer (some ad) := by
        unfold ldA at hx
        split at hx
        · rename_i ti _
          split at hx
          · split at hx
            · rename_i row hrd
              obtain ⟨ad, _, e, _⟩ := rdA_sound (hs.tm p) hs.heap hrd
              exact ⟨ad, e⟩
            · cases hx
          · split at hx
            · rename_i row hrd
              obtain ⟨ad, _, e, _⟩ := rdA_sound (hs.tm p) hs.heap hrd
              exact ⟨ad, e⟩
            · cases hx
        · cases hx
      obtain ⟨ad, he⟩ := hptr
      rw [he] at g1
      have g3 : (loadVar t ad).run P w = .ok u w := by simpa [Instr.loadAt, Instr.sureAddr] using g1
      have g4 : (asAddr (a.tmps.getD p undef)).run P w = .ok ad w := by rw [he]; rfl
      exact ⟨u :: vs, by simp only [List.mapM_cons, resF, Sem.run_bind, Sem.run_pure, Result.andThen_ok, g4, g3, h1], .cons g2 h2⟩
    · cases h

theorem results_run {a : Act} {w : World} (hs : StRel ⟨n, tm, H⟩ a w) {fn : Func} {rs : List ResultVar} (hr : fn.results = rs.toArray) {l : List AV} (h : resA P H tm rs = some l) :
    ∃ v, (results fn a.tmps).run P w = .ok v w ∧ Rel H.dom w (oneA l) v := by
  obtain ⟨vs, h1, h2⟩ := resA_sound (P := P) hs rs l h
  have hrun : (results fn a.tmps).run P w = .ok (if h : vs.toArray.size = 1 then vs.toArray[0] else .tuple vs.toArray) w := by
    have e : results fn a.tmps = (do let vs ← fn.results.mapM (resF a); pure (if h : vs.size = 1 then vs[0] else .tuple vs)) := by
      unfold results
      congr 1
    rw [e, hr, Array.mapM_eq_mapM_toList]
    simp only [Sem.run_bind, Sem.run_map, h1]
    rfl
  refine ⟨_, hrun, ?_⟩
  have hlen := h2.1
  match vs, l, h2, hlen with
  | [v], [x], h2, _ => exact h2.2 0 x v rfl rfl
  | [], [], h2, _ => exact .tup [] #[] rfl (fun i c v hc => by simp at hc)
  | v :: v' :: vs, x :: x' :: l, h2, hlen =>
    have hn : ¬ (v :: v' :: vs).toArray.size = 1 := by simp
    rw [dif_neg hn]
    exact .tup _ _ (by simpa using hlen) (fun i c u hc hu => h2.2 i c u hc (by simpa using hu))

theorem acalls_of {f : FuncId} {fn : Func} {c : Code} {args : List AV} {Q : AV → AHeap → Prop} {rs : List ResultVar} (hf : P.funcs[f]? = some fn) (hb : fn.body = some c) (hB : hasBody P f = true) (hr : fn.results = rs.toArray) (ha : args.length ≤ fn.ntmps)
    (h : Sim P fn.ntmps c (initTm args) H (retQ P rs Q)) : ACalls P f args H Q := by
  refine ⟨hB, fun w vs hh hv => ?_⟩
  refine (callsIn_wide (n := 0)).1 (callsIn_of_wp_marks (F := WF none) hf hb trivial ?_ rfl)
  have hvs : vs.size = args.length := by rw [← hv.1, Array.length_toList]
  have hs : StRel ⟨fn.ntmps, initTm args, H⟩ { tmps := vs ++ Array.replicate (fn.ntmps - vs.size) undef, defers := [] } w := by
    refine ⟨.nil _ _, by simp; omega, fun t => ?_, hh⟩
    show Rel H.dom w (args.getD t (.lit undef)) _
    rcases Nat.lt_or_ge t args.length with ht | ht
    · have e1 : args[t]? = some args[t] := by simp [ht]
      obtain ⟨v, hv1, hv2⟩ := hv.get e1
      have e2 : (vs ++ Array.replicate (fn.ntmps - vs.size) undef).getD t undef = v := by
        have hv3 : vs[t]? = some v := by simpa using hv1
        have : t < vs.size := by omega
        rw [Array.getD_eq_getD_getElem?, Array.getElem?_append_left this, hv3]; rfl
      rw [e2, List.getD_eq_getElem?_getD, e1]
      exact hv2
    · have e1 : args[t]? = none := List.getElem?_eq_none ht
      have e2 : (vs ++ Array.replicate (fn.ntmps - vs.size) undef).getD t undef = undef := by
        rw [Array.getD_eq_getD_getElem?, Array.getElem?_append_right (by omega), Array.getElem?_replicate]
        split <;> rfl
      rw [e2, List.getD_eq_getElem?_getD, e1]
      exact .lit _
  refine wpIn_mono (h _ w hs) ?_
  rintro e a' w' ⟨tm', H', k1, k2, k3, k4, Ds, k5, k6⟩
  simp only [List.append_nil] at k5
  have fin : retR P rs Q tm' H' → LeavesInM (WF none) 0 P fn a'.tmps (fun e w' => ∃ (u : Value) (r : AV) (H'' : AHeap), e = .returned u ∧ Q r H'' ∧ Rel H''.dom w' r u ∧ HRel H'' w' ∧ Ev H.dom w w' ∧ Fresh H.dom H''.dom w) a'.defers .returning w' := by
    rintro ⟨fl, hk⟩
    obtain ⟨tm₁, H₁, hk, q2, q3⟩ := frz_sound fl tm' H' k2 hk
    split at hk
    · rename_i l hl
      obtain ⟨H'', g1, g2⟩ := hk
      have key : ∀ (Ds : List Nat) (W : World), Ds.Nodup → (∀ D ∈ Ds, w.heap.size ≤ D) → (∀ D ∈ Ds, W.heap[D]? = some (.deferred (some []))) → Ec w' W → Ev H.dom w W →
          LeavesInM (WF none) 0 P fn a'.tmps (fun e w' => ∃ (u : Value) (r : AV) (H'' : AHeap), e = .returned u ∧ Q r H'' ∧ Rel H''.dom w' r u ∧ HRel H'' w' ∧ Ev H.dom w w' ∧ Fresh H.dom H''.dom w) (Ds.map mark) .returning W := by
        intro Ds
        induction Ds with
        | nil =>
          intro W _ _ _ hec hev
          have q2' : StRel ⟨fn.ntmps, tm₁, H₁⟩ { a' with defers := [] } W := ⟨.nil _ _, q2.n, fun t => (q2.tm t).ec hec, q2.heap.ec hec⟩
          obtain ⟨v, g3, g4⟩ := results_run q2' hr hl
          exact ⟨v, g3, v, _, H'', rfl, g2, g4.sub (fun b hb => g1.dom hb), (q2.heap.ec hec).sub g1, hev, fun b hb => k4 b (q3.dom (g1.dom hb))⟩
        | cons D Ds ih =>
          intro W hnd hsz hdf hec hev
          have hD := hdf D (by simp)
          refine ⟨by simp, .inl ⟨D, W.putObj D (.deferred none), rfl, run_takeDeferred hD, ?_⟩⟩
          refine ih _ (List.nodup_cons.1 hnd).2 (fun E hE => hsz E (by simp [hE])) (fun E hE => ?_) (hec.trans (ec_put _ hD (fun _ _ _ q => by cases q))) (hev.put _ (hsz D (by simp)) hD (fun _ _ _ q => by cases q))
          have : E ≠ D := fun q => (List.nodup_cons.1 hnd).1 (q ▸ hE)
          exact (World.putObj_heap_other this).trans (hdf E (by simp [hE]))
      rw [k5]
      obtain ⟨Es, e1, e2, e3⟩ := k2.defers
      have hEs : Es = Ds := by
        rw [k5] at e1
        have hinj : ∀ (l m : List Nat), l.map mark = m.map mark → l = m := by
          intro l
          induction l with
          | nil => intro m h; cases m <;> simp_all
          | cons x l ih =>
            intro m h
            cases m with
            | nil => simp at h
            | cons y m =>
              simp only [List.map_cons, List.cons.injEq] at h
              obtain ⟨h1, h2⟩ := h
              have : x = y := by simpa [mark] using h1
              rw [this, ih m h2]
        exact (hinj _ _ e1).symm
      subst hEs
      exact key Es w' e2 k6 (fun D hD => (e3 D hD).2) (.refl _) k3
    · exact hk.elim
  cases e with
  | normal => exact fin k1
  | ret => exact fin k1
  | _ => exact k1.elim

end
end Go.Sim
