/- The calculus: one operation, all kinds together; calls. No condition. -/
import Derived.Test.YtjpfgafdjlkblaaGreatSimHA
namespace Go.Sim
open Go

section
variable {H : AHeap}
theorem not_dom_del (H : AHeap) (b : Nat) : ¬ (H.del b).dom b := by simp [AHeap.dom, AHeap.del]

theorem rel_frozen {w : World} {b sz i j : Nat} {k : ABlk} {v : Value} (hh : HRel H w) (hb : H b = some k) (hs : k.sz = sz) (hr : Rel H.dom w (.ptr b sz i j) v) : Rel (H.del b).dom w (.vptr k.es i j) v := by
  subst hs
  have hz0 : k.sz ≠ 0 := by cases hr; assumption
  obtain ⟨c, g1, g2, g3⟩ := hh.rows hb hz0
  cases hr
  have := rel_vptr (O := (H.del b).dom) (b := b) (o := 0) (i := i) (j := j) (g3.sub fun b' hb' => (AHeap.del_le H b).dom hb') (fun q u hq => by
    rw [List.getElem?_take] at hq
    split at hq
    · have : c[q]? = some u := by simpa using hq
      simp [World.cell?, g1, this]
    · cases hq) (not_dom_del H b) (Array.getElem?_eq_some_iff.1 g1).1
  simpa using this

theorem rel_frozen_sl {w : World} {b sz off len : Nat} {cl : Bool} {k : ABlk} {v : Value} (hh : HRel H w) (hb : H b = some k) (hs : k.sz = sz) (hl : off + len ≤ k.es.length) (hr : Rel H.dom w (.sl b sz off len cl) v) :
    Rel (H.del b).dom w (.vsl ((k.es.drop off).take len) cl) v := by
  subst hs
  have hz0 : k.sz ≠ 0 := by cases hr; assumption
  obtain ⟨c, g1, g2, g3⟩ := hh.rows hb hz0
  cases hr with
  | sl b sz off len cap cl c' t fr h1 h2 h3 h4 h5 =>
    have hlen : ((k.es.drop off).take len).length = len := by simp; omega
    have hrows := ((g3.drop off).take len (by simp; omega)).sub fun b' hb' => (AHeap.del_le H b).dom hb'
    have := rel_vsl (cl := cl) (O := (H.del b).dom) (b := b) (o := off * k.sz) (cap := cap) hrows (fun q u hq => by
      rw [List.getElem?_take] at hq
      split at hq
      · rw [List.getElem?_drop, List.getElem?_take] at hq
        split at hq
        · have : c[off * k.sz + q]? = some u := by simpa using hq
          simp [World.cell?, g1, this]
        · cases hq
      · cases hq) (by rw [hlen]; exact h1) h2 (fun e => by rw [hlen]; exact h3 e) (not_dom_del H b) (Array.getElem?_eq_some_iff.1 g1).1
    rw [hlen] at this
    exact this


theorem set_del {b : Nat} {k : ABlk} (h : H b = none) : (H.set b k).del b = H := by
  funext c; simp only [AHeap.set, AHeap.del]; split
  · rename_i e; rw [e, h]
  · rfl
theorem le_set {b : Nat} {k : ABlk} (h : H b = none) : AHeap.le H (H.set b k) := by
  intro c k' hc
  have : c ≠ b := fun e => by rw [e, h] at hc; cases hc
  simp [AHeap.set, this, hc]
end


def hasBody (P : Program) (f : FuncId) : Bool :=
  match P.funcs[f]? with
  | some fn => fn.body.isSome && !(fn.name == "runtime.NumGoroutine")
  | none => false

def ACalls (P : Program) (f : FuncId) (args : List AV) (H : AHeap) (Q : AV → AHeap → Prop) : Prop :=
  hasBody P f = true ∧ ∀ (w : World) (vs : Array Value), HRel H w → RelL H.dom w args vs.toList →
    Calls P f vs w (fun e w' => ∃ (v : Value) (r : AV) (H' : AHeap), e = .returned v ∧ Q r H' ∧ Rel H'.dom w' r v ∧ HRel H' w' ∧ Ev H.dom w w' ∧ Fresh H.dom H'.dom w)

theorem ACalls.mono {P : Program} {f : FuncId} {args : List AV} {H : AHeap} {Q Q' : AV → AHeap → Prop} (h : ACalls P f args H Q) (hq : ∀ r H', Q r H' → Q' r H') : ACalls P f args H Q' :=
  ⟨h.1, fun w vs h1 h2 => (h.2 w vs h1 h2).mono fun e w' ⟨v, r, H', h3, h4, h5⟩ => ⟨v, r, H', h3, hq r H' h4, h5⟩⟩

def storeA (P : Program) (H : AHeap) (t : TypeId) (p x : AV) (K : AV → AHeap → Prop) : Prop :=
  match tinfo P t with
  | some ti => x.row.length = ti.size ∧ x.row.all AV.one = true ∧ (match wrA H p x.row with
    | some H' => K (.lit undef) H'
    | none => False)
  | none => False

def tplaces (P : Program) (t : TypeId) : Option (List (Nat × Nat)) :=
  match P.underlying t with
  | some (.struct fs) => fs.toList.mapM (fun f => (P.info? f.type).map fun i => (f.offset, i.size))
  | _ => none

def bldA (P : Program) (t : TypeId) (parts : List (Nat × AV)) : Option AV :=
  match tinfo P t, tplaces P t with
  | some ti, some pl => match fillA (fun i => pl[i]?) (ti.zero.map ofCell) parts with
    | some r => some (.agg r)
    | none => none
  | _, _ => none

def minmaxA (mx : Bool) (x y : AV) : Option AV :=
  match x, y with
  | .lit (.int k a), .lit (.int k' b) => if k = k' then some (.lit (.int k (if mx then max a b else min a b))) else none
  | _, _ => none

def keepA (r : Option AV) (H : AHeap) (K : AV → AHeap → Prop) : Prop :=
  match r with
  | some r => K r H
  | none => False

def bldSliceA (P : Program) (t : TypeId) (n : Nat) (parts : List (Nat × AV)) : Option AV :=
  match telem P t with
  | some e => match tinfo P e with
    | some ti => if ti.size ≠ 0 ∧ n * ti.size ≤ 16777216 ∧ n ≤ maxLen then (match buildRows ti.size (List.replicate n (ti.zero.map ofCell)) parts with
      | some rows => if rows.length = n then some (.vsl rows true) else none
      | none => none) else none
    | none => none
  | none => none
def pureA (P : Program) (H : AHeap) (tm : Nat → AV) (o : Op) : Option AV :=
  match o with
  | .move x => some (ev tm x)
  | .assign x => some (ev tm x)
  | .pick c x y => match ev tm c with
    | .lit (.bool b) => some (if b then ev tm x else ev tm y)
    | _ => none
  | .build t parts => bldA P t (parts.toList.map fun p => (p.1, ev tm p.2))
  | .load t x => ldA P H t (ev tm x)
  | .nilCheck x => if okA (ev tm x) then some (ev tm x) else none
  | .binOp op t x y _ => binA P op t (isConstOp y) (ev tm x) (ev tm y)
  | .unOp op _ x => unA op (ev tm x)
  | .convert src dst x => convA P src dst (ev tm x)
  | .makeFunc (.func f) first caps => some (.fn f (first.toList.map (ev tm)) (caps.toList.map (ev tm)))
  | .makeInterface t _ => if P.concrete t then some .nonnil else none
  | .slice t x lo hi mx => sliceA P t (ev tm x) (lo.map (ev tm)) (hi.map (ev tm)) (mx.map (ev tm))
  | .fieldAddr t x f => fieldAddrA P t (ev tm x) f
  | .field t x f => fieldA P t (ev tm x) f
  | .indexAddr t x i => indexAddrA P t (ev tm x) (ev tm i)
  | .index t x i => indexA P t (ev tm x) (ev tm i)
  | .extract x i => extractA (ev tm x) i
  | .lookup t x i ok => lookA P H t (ev tm x) (ev tm i) ok
  | .buildSlice t n parts => bldSliceA P t n (parts.toList.map fun p => (p.1, ev tm p.2))
  | .call ⟨.builtin .len, args, ts⟩ => match args.toList, ts.toList with
    | [x], [t] => lenA P t (ev tm x)
    | _, _ => none
  | .call ⟨.builtin .max, args, _⟩ => match args.toList with
    | [x, y] => minmaxA true (ev tm x) (ev tm y)
    | _ => none
  | .call ⟨.builtin .min, args, _⟩ => match args.toList with
    | [x, y] => minmaxA false (ev tm x) (ev tm y)
    | _ => none
  | _ => none

def aop (P : Program) (tm : Nat → AV) (H : AHeap) (o : Op) (K : AV → AHeap → Prop) : Prop :=
  match o with
  | .alloc t => allocA P H t K
  | .box t x => boxA P H t (ev tm x) K
  | .buildSlice t n parts => buildSliceA P H t n (parts.toList.map fun p => (p.1, ev tm p.2)) K
  | .makeSlice t l c => makeSliceA P H t (ev tm l) (ev tm c) K
  | .store t p x => storeA P H t (ev tm p) (ev tm x) K
  | .makeMap t none => makeMapA H t K
  | .mapUpdate t m k v => putA P H t (ev tm m) (ev tm k) (ev tm v) K
  | .call ⟨.builtin .append, args, ts⟩ => match args.toList, ts.toList with
    | [d, x], [t, t'] => t = t' ∧ appendA P H t (ev tm d) (ev tm x) K
    | _, _ => False
  | .call ⟨.value f, args, _⟩ => match ev tm f with
    | .fn g first caps => ACalls P g (first ++ args.toList.map (ev tm) ++ caps) H K
    | _ => False
  | o => keepA (pureA P H tm o) H K

section
variable {P : Program} {s : ASt} {a : Act} {w : World} {K : AV → AHeap → Prop}

theorem parts_rel (h : StRel s a w) (parts : Array (Nat × Operand)) : ((parts.map fun p => (p.1, a.eval p.2)).toList.length = (parts.toList.map fun p => (p.1, ev s.tm p.2)).length) ∧
    ∀ (i : Nat) (x : Nat × AV) (u : Nat × Value), (parts.toList.map fun p => (p.1, ev s.tm p.2))[i]? = some x → (parts.map fun p => (p.1, a.eval p.2)).toList[i]? = some u → u.1 = x.1 ∧ Rel s.H.dom w x.2 u.2 := by
  refine ⟨by simp, ?_⟩
  intro i x u hx hu
  rw [Array.toList_map, List.getElem?_map] at hu
  rw [List.getElem?_map] at hx
  cases hp : parts.toList[i]? with
  | none => rw [hp] at hx; cases hx
  | some p =>
    rw [hp] at hx hu
    cases hx
    cases hu
    exact ⟨rfl, rel_ev h p.2⟩

theorem bldA_sound (h : StRel s a w) {t : TypeId} {parts : Array (Nat × Operand)} {r : AV} (hb : bldA P t (parts.toList.map fun p => (p.1, ev s.tm p.2)) = some r) :
    ∃ u, (Instr.build t (parts.map fun (i, x) => (i, a.eval x))).run P w = .ok u w ∧ Rel s.H.dom w r u := by
  unfold bldA at hb
  split at hb
  · rename_i ti pl ht hpl
    obtain ⟨i, d, z, hi, hd, hz, hsz, hby, hag, hzl, hzs, hz1⟩ := tinfo_spec ht
    split at hb
    · rename_i row hf
      cases hb
      obtain ⟨hl, hp⟩ := parts_rel h parts
      obtain ⟨us, g1, g2, g3⟩ := fillA_sound (w := w) (O := s.H.dom) _ (parts.map fun p => (p.1, a.eval p.2)).toList _ z.cells row hl hp (by rw [hzl]; exact rel_zero _ _ _) hz1 hf
      have hbt : P.built t (parts.map fun (i, x) => (i, a.eval x)).toList = some us := by
        unfold tplaces at hpl
        split at hpl
        · rename_i fs hu
          simp only [Program.built, hi, hu, hz, hpl]
          simpa using g1
        · cases hpl
      exact ⟨_, run_build w t _ us hbt, by have := rel_agg g2 g3; simpa using this⟩
    · cases hb
  · cases hb

theorem storeA_sound (h : StRel s a w) {t : TypeId} {p x : AV} {pv xv : Value} (hp : Rel s.H.dom w p pv) (hx : Rel s.H.dom w x xv) (hk : storeA P s.H t p x K) :
    ∃ w' H', (Instr.storeAt t pv xv).run P w = .ok () w' ∧ K (.lit undef) H' ∧ HRel H' w' ∧ Ev s.H.dom w w' ∧ Fresh s.H.dom H'.dom w := by
  unfold storeA at hk
  split at hk
  · rename_i ti ht
    obtain ⟨c1, c2, hk⟩ := hk
    split at hk
    · rename_i H' hw
      obtain ⟨w', g1, g2, g3, g4⟩ := wrA_sound hp hx h.heap ht c1 c2 hw
      exact ⟨w', H', g1, hk, g2, g3, g4⟩
    · exact hk.elim
  · exact hk.elim

theorem opt_ev (h : StRel s a w) (x : Option Operand) : (∀ y, x.map (ev s.tm) = some y → ∃ u, x.map a.eval = some u ∧ Rel s.H.dom w y u) ∧ (x.map (ev s.tm) = none → x.map a.eval = none) := by
  cases x with
  | none => exact ⟨fun y hy => by simp at hy, fun _ => rfl⟩
  | some x => exact ⟨fun y hy => by simp at hy; subst hy; exact ⟨_, rfl, rel_ev h x⟩, fun hn => by simp at hn⟩

theorem list_ev (h : StRel s a w) (xs : Array Operand) : RelL s.H.dom w (xs.toList.map (ev s.tm)) (xs.map a.eval).toList := by
  refine ⟨by simp, ?_⟩
  intro i x v hx hv
  rw [Array.toList_map, List.getElem?_map] at hv
  rw [List.getElem?_map] at hx
  cases hp : xs.toList[i]? with
  | none => rw [hp] at hx; cases hx
  | some p => rw [hp] at hx hv; cases hx; cases hv; exact rel_ev h p

theorem relL_fn {O : Nat → Prop} {as : List AV} {us : Array Value} (h : RelL O w as us.toList) : us.size = as.length ∧ ∀ (i : Nat) (c : AV) (v : Value), as[i]? = some c → us[i]? = some v → Rel O w c v :=
  ⟨by rw [← h.1, Array.length_toList], fun i c v hc hv => h.2 i c v hc (by simpa using hv)⟩

theorem minmax_run {mx : Bool} {k : IntKind} {x y : Int} {ts : Array TypeId} {ty : TypeId} :
    ((if mx then Builtin.max_ ts ty #[.int k x, .int k y] else Builtin.min_ ts ty #[.int k x, .int k y])).run P w = .ok (.int k (if mx then max x y else min x y)) w := by
  cases mx
  · simp only [Bool.false_eq_true, if_false]
    rw [run_min_int2]
    congr 2
    by_cases h : y < x
    · rw [if_pos h]; omega
    · rw [if_neg h]; omega
  · simp only [if_true]
    rw [run_max_int2]
    congr 2
    by_cases h : y > x
    · rw [if_pos h]; omega
    · rw [if_neg h]; omega

theorem minmax_sound (h : StRel s a w) {mx : Bool} {args : Array Operand} {ts : Array TypeId} {ty : TypeId} {r : AV} (hp : (match args.toList with
    | [x, y] => minmaxA mx (ev s.tm x) (ev s.tm y)
    | _ => none) = some r) : ∃ v, (if mx then Builtin.max_ ts ty (args.map a.eval) else Builtin.min_ ts ty (args.map a.eval)).run P w = .ok v w ∧ Rel s.H.dom w r v := by
  split at hp
  · rename_i x y ha
    have ea : args = #[x, y] := by apply Array.ext'; simpa using ha
    subst ea
    unfold minmaxA at hp
    split at hp
    · rename_i k p k' q e1 e2
      split at hp
      · rename_i ek
        subst ek
        cases hp
        have h1 := rel_ev h x
        have h2 := rel_ev h y
        rw [e1] at h1
        rw [e2] at h2
        have em : (#[x, y].map a.eval) = #[a.eval x, a.eval y] := by simp
        rw [em]
        generalize a.eval x = vx at h1
        generalize a.eval y = vy at h2
        cases h1
        cases h2
        exact ⟨_, minmax_run, .lit _⟩
      · cases hp
    · cases hp
  · cases hp

theorem rdA_mono {H L : AHeap} (hle : H.le L) {p : AV} {n : Nat} {r : List AV} (h : rdA H p n = some r) : rdA L p n = some r := by
  cases p with
  | ptr b sz i j =>
    unfold rdA at *
    cases hb : H b with
    | none => simp [hb] at h
    | some k =>
      have hl := hle b k hb
      simp only [hb] at h
      simp only [hl]
      exact h
  | vptr es i j => exact h
  | _ => cases h

theorem ldA_mono {H L : AHeap} (hle : H.le L) {t : TypeId} {p r : AV} (h : ldA P H t p = some r) : ldA P L t p = some r := by
  unfold ldA at *
  cases ht : tinfo P t with
  | none => simp [ht] at h
  | some ti =>
    simp only [ht] at h ⊢
    by_cases ha : ti.agg = true
    · rw [if_pos ha] at h ⊢
      cases hr : rdA H p ti.size with
      | none => simp [hr] at h
      | some row => rw [rdA_mono hle hr]; simpa [hr] using h
    · rw [if_neg ha] at h ⊢
      cases hr : rdA H p 1 with
      | none => simp [hr] at h
      | some row => rw [rdA_mono hle hr]; simpa [hr] using h

theorem pureA_sound {H : AHeap} (h : StRel s a w) (hle : H.le s.H) {o : Oper} {r : AV} (hp : pureA P H s.tm o.op = some r) :
    ∃ v w', (execOp a.eval o).run P w = .ok (.value v) w' ∧ Rel s.H.dom w' r v ∧ HRel s.H w' ∧ Ev s.H.dom w w' := by
  have same : ∀ {v : Value} {m : Sem Value}, m.run P w = .ok v w → Rel s.H.dom w r v → (do pure (Next.value (← m)) : Sem Next).run P w = .ok (.value v) w ∧ Rel s.H.dom w r v ∧ HRel s.H w ∧ Ev s.H.dom w w := by
    intro v m h1 h2
    exact ⟨by simp [h1], h2, h.heap, .refl _ _⟩
  unfold execOp
  unfold pureA at hp
  split at hp <;> rename_i heq <;> simp only [heq]
  · cases hp; exact ⟨_, w, rfl, rel_ev h _, h.heap, .refl _ _⟩
  · cases hp; exact ⟨_, w, rfl, rel_ev h _, h.heap, .refl _ _⟩
  · rename_i c x y
    cases hc : ev s.tm c <;> rw [hc] at hp <;> first | (cases hp; done) | skip
    rename_i v
    have hr := rel_ev h c
    rw [hc] at hr
    generalize hcv : a.eval c = cv at hr
    cases hr
    cases v <;> first | (cases hp; done) | skip
    rename_i b
    simp only at hp
    cases hp
    refine ⟨if b then a.eval x else a.eval y, w, by simp [asBool], ?_, h.heap, .refl _ _⟩
    cases b
    · exact rel_ev h y
    · exact rel_ev h x
  · rename_i t parts
    obtain ⟨u, g1, g2⟩ := bldA_sound h hp
    exact ⟨u, w, same g1 g2⟩
  · rename_i t x
    obtain ⟨u, g1, g2⟩ := ldA_sound (rel_ev h x) h.heap (ldA_mono hle hp)
    exact ⟨u, w, same g1 g2⟩
  · rename_i x
    split at hp
    · rename_i hok
      cases hp
      have hr := rel_ev h x
      refine ⟨a.eval x, w, ?_, hr, h.heap, .refl _ _⟩
      rcases okA_sound hr hok with ⟨ad, e⟩ | ⟨f, us, vs, e⟩
      · rw [e]; rfl
      · rw [e]; rfl
    · cases hp
  · rename_i op t x y yt
    obtain ⟨u, g1, g2⟩ := binA_sound (xo := x) (yo := y) (rel_ev h x) (rel_ev h y) (fun hc => by cases y <;> simp [isConstOp] at hc; exact ⟨_, rfl⟩) hp
    exact ⟨u, w, same g1 g2⟩
  · rename_i op t x
    obtain ⟨u, g1, g2⟩ := unA_sound (P := P) (rel_ev h x) hp
    exact ⟨u, w, same g1 g2⟩
  · rename_i src dst x
    obtain ⟨u, w', g1, g2, g3, g4⟩ := convA_sound h (rel_ev h x) hp
    exact ⟨u, w', by simp [g1], g2, g3, g4⟩
  · rename_i f first caps
    cases hp
    obtain ⟨a1, a2⟩ := relL_fn (list_ev h first)
    obtain ⟨b1, b2⟩ := relL_fn (list_ev h caps)
    exact ⟨_, w, rfl, .fn f _ _ _ _ a1 b1 a2 b2, h.heap, .refl _ _⟩
  · rename_i t x
    split at hp
    · rename_i hc
      cases hp
      exact ⟨_, w, same (run_makeInterface w t _ hc) (.nonnil _ _)⟩
    · cases hp
  · rename_i t x lo hi mx
    obtain ⟨u, g1, g2⟩ := sliceA_sound (rel_ev h x) (opt_ev h lo).1 (opt_ev h lo).2 (opt_ev h hi).1 (opt_ev h hi).2 (opt_ev h mx).1 (opt_ev h mx).2 hp
    exact ⟨u, w, same g1 g2⟩
  · rename_i t x f
    obtain ⟨u, g1, g2⟩ := fieldAddrA_sound (rel_ev h x) hp
    exact ⟨u, w, same g1 g2⟩
  · rename_i t x f
    obtain ⟨u, g1, g2⟩ := fieldA_sound (rel_ev h x) hp
    exact ⟨u, w, same g1 g2⟩
  · rename_i t x i
    obtain ⟨u, g1, g2⟩ := indexAddrA_sound (rel_ev h x) (rel_ev h i) hp
    exact ⟨u, w, same g1 g2⟩
  · rename_i t x i
    obtain ⟨u, g1, g2⟩ := indexA_sound (rel_ev h x) (rel_ev h i) hp
    exact ⟨u, w, same g1 g2⟩
  · rename_i x i
    obtain ⟨u, g1, g2⟩ := extractA_sound (P := P) (rel_ev h x) hp
    exact ⟨u, w, same g1 g2⟩
  · rename_i t x i ok
    obtain ⟨u, g1, g2⟩ := lookA_sound (h.heap.sub hle) (rel_ev h x) (rel_ev h i) hp
    exact ⟨u, w, same g1 g2⟩
  · rename_i t n parts
    unfold bldSliceA at hp
    split at hp
    · rename_i e he
      split at hp
      · rename_i ti ht
        split at hp
        · rename_i hc
          split at hp
          · rename_i rows hrows
            split at hp
            · rename_i hlen
              cases hp
              have hb : buildSliceA P s.H t n (parts.toList.map fun p => (p.1, ev s.tm p.2)) (fun r H' => ∃ b, s.H b = none ∧ r = .sl b ti.size 0 n true ∧ H' = s.H.set b ⟨ti.size, e, rows⟩) := by
                unfold buildSliceA; rw [he]; simp only [ht, hrows]; exact ⟨hc.1, hc.2.1, hc.2.2, fun b hb => ⟨b, hb, rfl, rfl⟩⟩
              obtain ⟨v, w', r, H', g1, ⟨b, hn, rfl, rfl⟩, g2, g3, g4, g5⟩ := buildSliceA_sound (vals := parts.map fun p => (p.1, a.eval p.2)) h (parts_rel h parts).1 (parts_rel h parts).2 hb
              have := rel_frozen_sl g3 (AHeap.set_self ..) rfl (by simp [hlen]) g2
              rw [set_del hn] at this
              refine ⟨v, w', by simp [g1], ?_, g3.sub (le_set hn), g4⟩
              simpa [← hlen] using this
            · cases hp
          · cases hp
        · cases hp
      · cases hp
    · cases hp
  · rename_i args ts
    split at hp
    · rename_i x t ha hts
      have ea : args = #[x] := by apply Array.ext'; simpa using ha
      have et : ts = #[t] := by apply Array.ext'; simpa using hts
      subst ea et
      obtain ⟨u, g1, g2⟩ := lenA_sound (P := P) (ty := o.type) (rel_ev h x) hp
      exact ⟨u, w, by simp [resolve, invoke, builtin, g1], g2, h.heap, .refl _ _⟩
    · cases hp
  · rename_i args ts
    obtain ⟨v, g1, g2⟩ := minmax_sound (P := P) h (mx := true) (ts := ts) (ty := o.type) hp
    exact ⟨v, w, by simp only [if_true] at g1; simp [resolve, invoke, builtin, g1], g2, h.heap, .refl _ _⟩
  · rename_i args ts
    obtain ⟨v, g1, g2⟩ := minmax_sound (P := P) h (mx := false) (ts := ts) (ty := o.type) hp
    exact ⟨v, w, by simp only [Bool.false_eq_true, if_false] at g1; simp [resolve, invoke, builtin, g1], g2, h.heap, .refl _ _⟩
  · cases hp

theorem aop_sound (h : StRel s a w) {o : Oper} (hk : aop P s.tm s.H o.op K) : Out P s.H.dom w K ((execOp a.eval o).run P w) := by
  unfold aop at hk
  split at hk <;> rename_i heq
  · rename_i t
    obtain ⟨v, w', r, H', g1, g2, g3, g4, g5, g6⟩ := allocA_sound h hk
    have e : (execOp a.eval o).run P w = .ok (.value v) w' := by unfold execOp; simp only [heq]; simp [g1]
    rw [e]; exact .value r H' v w' g2 g3 g4 g5 g6
  · rename_i t x
    obtain ⟨v, w', r, H', g1, g2, g3, g4, g5, g6⟩ := boxA_sound h (rel_ev h x) hk
    have e : (execOp a.eval o).run P w = .ok (.value v) w' := by unfold execOp; simp only [heq]; simp [g1]
    rw [e]; exact .value r H' v w' g2 g3 g4 g5 g6
  · rename_i t n parts
    obtain ⟨hl, hp⟩ := parts_rel h parts
    obtain ⟨v, w', r, H', g1, g2, g3, g4, g5, g6⟩ := buildSliceA_sound h (vals := parts.map fun p => (p.1, a.eval p.2)) hl hp hk
    have e : (execOp a.eval o).run P w = .ok (.value v) w' := by
      unfold execOp; simp only [heq]
      have g1' : (Instr.buildSlice t n (parts.map fun (i, x) => (i, a.eval x))).run P w = .ok v w' := g1
      simp [g1']
    rw [e]; exact .value r H' v w' g2 g3 g4 g5 g6
  · rename_i t l c
    obtain ⟨v, w', r, H', g1, g2, g3, g4, g5, g6⟩ := makeSliceA_sound h (rel_ev h l) (rel_ev h c) hk
    have e : (execOp a.eval o).run P w = .ok (.value v) w' := by unfold execOp; simp only [heq]; simp [g1]
    rw [e]; exact .value r H' v w' g2 g3 g4 g5 g6
  · rename_i t p x
    obtain ⟨w', H', g1, g2, g3, g4, g5⟩ := storeA_sound h (rel_ev h p) (rel_ev h x) hk
    have e : (execOp a.eval o).run P w = .ok .skip w' := by unfold execOp; simp only [heq]; simp [g1]
    rw [e]; exact .skip H' w' g2 g3 g4 g5
  · rename_i t
    obtain ⟨v, w', r, H', g1, g2, g3, g4, g5, g6⟩ := makeMapA_sound (P := P) h.heap hk
    have e : (execOp a.eval o).run P w = .ok (.value v) w' := by unfold execOp; simp only [heq]; simp [g1]
    rw [e]; exact .value r H' v w' g2 g3 g4 g5 g6
  · rename_i t m k v
    obtain ⟨w', H', g1, g2, g3, g4, g5⟩ := putA_sound (P := P) h.heap (rel_ev h m) (rel_ev h k) (rel_ev h v) hk
    have e : (execOp a.eval o).run P w = .ok .skip w' := by unfold execOp; simp only [heq]; simp [g1]
    rw [e]; exact .skip H' w' g2 g3 g4 g5
  · rename_i args ts
    split at hk
    · rename_i d x t t' ha hts
      obtain ⟨rfl, hk⟩ := hk
      have ea : args = #[d, x] := by apply Array.ext'; simpa using ha
      have et : ts = #[t, t] := by apply Array.ext'; simpa using hts
      subst ea et
      obtain ⟨v, w', r, H', g1, g2, g3, g4, g5, g6⟩ := appendA_sound h (ty := o.type) (rel_ev h d) (rel_ev h x) hk
      have e : (execOp a.eval o).run P w = .ok (.value v) w' := by unfold execOp; simp only [heq]; simp [resolve, invoke, builtin, g1]
      rw [e]; exact .value r H' v w' g2 g3 g4 g5 g6
    · exact hk.elim
  · rename_i f args ts
    split at hk
    · rename_i g first caps hf
      have hr := rel_ev h f
      rw [hf] at hr
      generalize hfv : a.eval f = fv at hr
      cases hr with
      | fn g first caps us vs h1 h2 h3 h4 =>
        obtain ⟨hbody, hcall⟩ := hk
        have hl := list_ev h args
        have hus : RelL s.H.dom w first us.toList := ⟨by simp [h1], fun i c v hc hv => h3 i c v hc (by simpa using hv)⟩
        have hvs : RelL s.H.dom w caps vs.toList := ⟨by simp [h2], fun i c v hc hv => h4 i c v hc (by simpa using hv)⟩
        have hall : RelL s.H.dom w (first ++ args.toList.map (ev s.tm) ++ caps) (us ++ args.map a.eval ++ vs).toList := by
          rw [Array.toList_append, Array.toList_append]
          exact (hus.append hl).append hvs
        have hc := hcall w _ h.heap hall
        have e : (execOp a.eval o).run P w = .ok (.enter g (us ++ args.map a.eval ++ vs)) w := by
          unfold hasBody at hbody
          cases hfn : P.funcs[g]? with
          | none => simp [hfn] at hbody
          | some fn =>
            simp only [hfn, Bool.and_eq_true, Bool.not_eq_true'] at hbody
            have hb : ¬ fn.body = none := by
              intro hbb
              simp [hbb] at hbody
            have hn : ¬ fn.name = "runtime.NumGoroutine" := by simpa using hbody.2
            unfold execOp; simp only [heq]
            simp [resolve, hfv, Deferred.ofValue, invoke, callFunc, hfn, hb, hn]
        rw [e]
        exact .enter g _ hc
    · exact hk.elim
  · unfold keepA at hk
    split at hk
    · rename_i r hr
      obtain ⟨v, w', g1, g2, g3, g4⟩ := pureA_sound h (AHeap.le_refl _) hr
      rw [g1]
      exact .value r s.H v w' hk g2 g3 g4 (.refl _ _)
    · exact hk.elim

end
end Go.Sim
