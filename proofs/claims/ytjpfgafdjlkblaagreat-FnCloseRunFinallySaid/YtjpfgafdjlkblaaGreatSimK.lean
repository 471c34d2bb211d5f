/- The calculus: a region that draws its order. What is told in the order of the text holds in every order. No condition. -/
import Derived.Test.YtjpfgafdjlkblaaGreatSimJ
namespace Go.Sim
open Go

def isW : Op → Bool
  | .alloc _ | .box .. | .makeSlice .. | .store .. | .makeMap .. | .mapUpdate .. => true
  | .call ⟨.builtin .append, _, _⟩ => true
  | .call ⟨.value _, _, _⟩ => true
  | _ => false

def uni (a b : List Nat) : List Nat := a.foldr (fun x acc => if acc.contains x then acc else x :: acc) b
def ancOf (acc : List (List Nat)) (o : Oper) : List Nat := o.after.toList.foldr (fun e r => if Region.binds .any e then uni (e.on :: acc.getD e.on []) r else r) []
def ancs (l : List Oper) : List (List Nat) := l.foldl (fun acc o => acc ++ [ancOf acc o]) []
def isQ (qs : List Nat) (i : Nat) (op : Op) : Bool := qs.contains i && (match op with
  | .call ⟨.value _, _, _⟩ => true
  | _ => false)
def isWq (qs : List Nat) (i : Nat) (op : Op) : Bool := isW op && !isQ qs i op
def commB (qs : List Nat) (l : List Oper) (i : Nat) (x : Oper) (j : Nat) (y : Oper) : Bool := x.apart l.toArray y && !(isWq qs i x.op && isWq qs j y.op)
def anc (t : List (List Nat)) (i j : Nat) : Bool := (t.getD j []).contains i
def chkD (qs : List Nat) (l : List Oper) (t : List (List Nat)) : Bool :=
  (List.range l.length).all fun j => match l[j]? with
    | some oj => (oj.after.toList.all fun e => !Region.binds .any e || decide (e.on < j)) && ((List.range j).all fun i => anc t i j || (match l[i]? with
      | some oi => commB qs l i oi j oj
      | none => true))
    | none => true
def flagD (qs : List Nat) (l : List Oper) (t : List (List Nat)) (i : Nat) : Bool :=
  match l[i]? with
  | some oi => isQ qs i oi.op || (isLd oi.op && ((List.range l.length).any fun j => match l[j]? with
    | some oj => isWq qs j oj.op && !(if i < j then anc t i j else anc t j i)
    | none => false))
  | none => false
def tagD (qs : List Nat) (l : List Oper) (t : List (List Nat)) (i : Nat) : Nat :=
  match l[i]? with
  | some oi => if isQ qs i oi.op then 4 else if isW oi.op then (if (List.range l.length).all (fun k => !flagD qs l t k || anc t k i) then 2 else 3) else if flagD qs l t i then 1 else 0
  | none => 0
def tagsOfQ (qs : List Nat) (l : List Oper) : Option (List Nat) := if chkD qs l (ancs l) then some ((List.range l.length).map (tagD qs l (ancs l))) else none
def tagsOf (l : List Oper) : Option (List Nat) := tagsOfQ [] l

def quietC (P : Program) (Hp : AHeap) (f : AV) (args : List AV) (v : AV) : Prop :=
  match f with
  | .fn g first caps => ∀ H', AHeap.le Hp H' → ACalls P g (first ++ args ++ caps) H' fun r' H'' => r' = v ∧ H'' = H'
  | _ => False
def quietO (P : Program) (Hp : AHeap) (tm : Nat → AV) (o : Op) (v : AV) : Prop :=
  match o with
  | .call ⟨.value f, args, _⟩ => quietC P Hp (ev tm f) (args.toList.map (ev tm)) v
  | _ => False
def qvd (qv : Nat → AV) : Option Nat → AV
  | some d => qv d
  | none => .top

def stepD (P : Program) (Hp : AHeap) (tag : Nat) (v : AV) (o : Op) (tm : Nat → AV) (H : AHeap) (K : AV → AHeap → Prop) : Prop :=
  match tag with
  | 0 => keepA (pureA P H tm o) H K
  | 1 => keepA (pureA P Hp tm o) H K
  | 2 => aop P tm H o K
  | 3 => aop P tm H o fun r H' => Hp.le H' ∧ K r H'
  | _ => quietO P Hp tm o v ∧ K v H

def aopsD (P : Program) (ops : List Oper) (tags : List Nat) (qv : Nat → AV) (Hp : AHeap) : List (Oper × Nat) → (Nat → AV) → AHeap → ((Nat → AV) → AHeap → Prop) → Prop
  | [], tm, H, K => K tm H
  | (o, i) :: rest, tm, H, K => match gA ops tm o.guard with
    | some g => (g = true → stepD P Hp (tags.getD i 0) (qvd qv o.dst) o.op tm H fun r H' => aopsD P ops tags qv Hp rest (updO tm o.dst r) H' K) ∧ (g = false → aopsD P ops tags qv Hp rest (updO tm o.dst (.lit undef)) H K)
    | none => False

theorem mem_uni {x : Nat} : ∀ {a b : List Nat}, x ∈ uni a b → x ∈ a ∨ x ∈ b := by
  intro a
  induction a with
  | nil => intro b h; exact .inr h
  | cons y a ih =>
    intro b h
    simp only [uni, List.foldr_cons] at h
    split at h
    · rcases ih (b := b) h with h | h
      · exact .inl (by simp [h])
      · exact .inr h
    · rw [List.mem_cons] at h
      rcases h with h | h
      · exact .inl (by simp [h])
      · rcases ih (b := b) h with h | h
        · exact .inl (by simp [h])
        · exact .inr h

theorem mem_ancOf {x : Nat} {acc : List (List Nat)} {o : Oper} (h : x ∈ ancOf acc o) : ∃ e ∈ o.after.toList, Region.binds .any e = true ∧ (x = e.on ∨ x ∈ acc.getD e.on []) := by
  unfold ancOf at h
  generalize o.after.toList = l at h
  induction l with
  | nil => simp at h
  | cons e l ih =>
    simp only [List.foldr_cons] at h
    split at h
    · rename_i hb
      rcases mem_uni h with h | h
      · rw [List.mem_cons] at h
        exact ⟨e, by simp, hb, h⟩
      · obtain ⟨f, hf, h⟩ := ih h
        exact ⟨f, by simp [hf], h⟩
    · obtain ⟨f, hf, h⟩ := ih h
      exact ⟨f, by simp [hf], h⟩

theorem ancs_spec (L : List Oper) (S : Nat → Prop) (hS : ∀ k o, L[k]? = some o → S k → ∀ e ∈ o.after.toList, Region.binds .any e = true → S e.on) :
    ∀ (l : List Oper) (acc : List (List Nat)), (∀ k, l[k]? = L[acc.length + k]?) →
    (∀ j x, x ∈ acc.getD j [] → (∀ o, L[j]? = some o → ∀ e ∈ o.after.toList, Region.binds .any e = true → S e.on) → S x) →
    ∀ j x, x ∈ (l.foldl (fun acc o => acc ++ [ancOf acc o]) acc).getD j [] → (∀ o, L[j]? = some o → ∀ e ∈ o.after.toList, Region.binds .any e = true → S e.on) → S x := by
  intro l
  induction l with
  | nil => intro acc _ h; exact h
  | cons o l ih =>
    intro acc hl h
    simp only [List.foldl_cons]
    refine ih (acc ++ [ancOf acc o]) (fun k => ?_) (fun j x hx hp => ?_)
    · have := hl (k + 1)
      simp only [List.getElem?_cons_succ] at this
      rw [this]
      simp only [List.length_append, List.length_singleton]
      congr 1; omega
    · by_cases hj : j < acc.length
      · refine h j x ?_ hp
        rw [List.getD_eq_getElem?_getD, List.getElem?_append_left hj] at hx
        rw [List.getD_eq_getElem?_getD]; exact hx
      · by_cases hj2 : j = acc.length
        · subst hj2
          have hx2 : x ∈ ancOf acc o := by
            rw [List.getD_eq_getElem?_getD, List.getElem?_append_right (Nat.le_refl _)] at hx
            simpa using hx
          have ho : L[acc.length]? = some o := by have := hl 0; simpa using this.symm
          obtain ⟨e, he, hb, hxe⟩ := mem_ancOf hx2
          have hse := hp o ho e he hb
          rcases hxe with rfl | hxe
          · exact hse
          · exact h e.on x hxe (fun o' ho' e' he' hb' => hS e.on o' ho' hse e' he' hb')
        · have hn : (acc ++ [ancOf acc o]).length ≤ j := by simp; omega
          rw [List.getD_eq_getElem?_getD, List.getElem?_eq_none hn] at hx
          simp at hx

theorem anc_done {L : List Oper} {S : Nat → Prop} (hS : ∀ k o, L[k]? = some o → S k → ∀ e ∈ o.after.toList, Region.binds .any e = true → S e.on) {i j : Nat} (h : anc (ancs L) i j = true)
    (hj : ∀ o, L[j]? = some o → ∀ e ∈ o.after.toList, Region.binds .any e = true → S e.on) : S i :=
  ancs_spec L S hS L [] (fun k => by simp) (fun j x hx => by simp at hx) j i (by simpa [anc, ancs] using h) hj

section
variable {P : Program} {a : Act} {w : World}

structure Comm (qs : List Nat) (ops : List Oper) (tags : List Nat) (x y : Oper × Nat) : Prop where
  a1 : ∀ d, x.1.dst = some d → d ∉ y.1.looksAt ops.toArray
  a2 : ∀ d, x.1.dst = some d → y.1.dst ≠ some d
  a3 : ∀ d, y.1.dst = some d → d ∉ x.1.looksAt ops.toArray
  w : ¬ (isWq qs x.2 x.1.op = true ∧ isWq qs y.2 y.1.op = true)
  r1 : isWq qs x.2 x.1.op = true → tags.getD y.2 0 = 0 → isLd y.1.op = false
  r2 : isWq qs y.2 y.1.op = true → tags.getD x.2 0 = 0 → isLd x.1.op = false

theorem looks_op {ops : Array Oper} {o : Oper} {d : Nat} (h : d ∉ o.looksAt ops) : ∀ x ∈ o.op.operands, x ≠ .tmp d := by
  intro x hx e
  subst e
  apply h
  unfold Oper.looksAt
  rw [List.mem_append]
  left
  rw [List.mem_filterMap]
  exact ⟨.tmp d, by simpa using hx, rfl⟩

theorem gA_upd {ops : List Oper} {tm : Nat → AV} {o : Oper} {d : Option Nat} {r : AV} (h : ∀ e, d = some e → e ∉ o.looksAt ops.toArray) : gA ops (updO tm d r) o.guard = gA ops tm o.guard := by
  cases d with
  | none => rfl
  | some d =>
    have hd := h d rfl
    unfold gA
    cases hg : o.guard with
    | none => rfl
    | some jw =>
      obtain ⟨j, want⟩ := jw
      simp only
      cases he : (ops[j]?).bind (·.dst) with
      | none => rfl
      | some e =>
        have hne : e ≠ d := by
          intro q
          apply hd
          unfold Oper.looksAt
          rw [hg, List.mem_append]
          right
          have he' : (ops.toArray[j]?).bind (·.dst) = some e := by simpa using he
          show d ∈ ((ops.toArray[j]?).bind fun x => x.dst).toList
          rw [he', q]; simp
        simp [updO, upd, hne]

theorem ops_upd {ops : Array Oper} {tm : Nat → AV} {o : Oper} {d : Option Nat} {r : AV} (h : ∀ e, d = some e → e ∉ o.looksAt ops) : ∀ x ∈ o.op.operands, ev (updO tm d r) x = ev tm x :=
  fun x hx => ev_upd fun e he => looks_op (h e he) x hx

def Val (P : Program) (Hp H : AHeap) (tag : Nat) (v : AV) (tm : Nat → AV) (o : Op) (r : AV) : Prop :=
  match tag with
  | 0 => pureA P H tm o = some r
  | 1 => pureA P Hp tm o = some r
  | _ => quietO P Hp tm o v ∧ r = v
theorem Val.unique {Hp H : AHeap} {tag : Nat} {v : AV} {tm : Nat → AV} {o : Op} {r r' : AV} (h : Val P Hp H tag v tm o r) (k : Val P Hp H tag v tm o r') : r = r' := by
  match tag, h, k with
  | 0, h, k => exact Option.some.inj (Eq.trans (Eq.symm h) k)
  | 1, h, k => exact Option.some.inj (Eq.trans (Eq.symm h) k)
  | _ + 2, h, k => exact h.2.trans k.2.symm
theorem keepA_iff {o : Option AV} {H : AHeap} {K : AV → AHeap → Prop} : keepA o H K ↔ ∃ r, o = some r ∧ K r H := by
  unfold keepA
  split
  · rename_i r; exact ⟨fun h => ⟨r, rfl, h⟩, fun ⟨r', e, h⟩ => by cases e; exact h⟩
  · exact ⟨fun h => h.elim, fun ⟨r', e, h⟩ => by cases e⟩
def isLook (t : Nat) : Prop := t = 0 ∨ t = 1 ∨ t = 4
theorem stepD_val {Hp : AHeap} {tag : Nat} {v : AV} {o : Op} {tm : Nat → AV} {H : AHeap} {K : AV → AHeap → Prop} (ht : isLook tag) :
    stepD P Hp tag v o tm H K ↔ ∃ r, Val P Hp H tag v tm o r ∧ K r H := by
  rcases ht with rfl | rfl | rfl
  · exact keepA_iff
  · exact keepA_iff
  · exact ⟨fun h => ⟨v, ⟨h.1, rfl⟩, h.2⟩, fun ⟨r, ⟨h1, e⟩, h2⟩ => ⟨h1, e ▸ h2⟩⟩

theorem stepD_w {tags : List Nat} {Hp : AHeap} {v : AV} {o : Oper} {i : Nat} {tm : Nat → AV} {H : AHeap} {K : AV → AHeap → Prop} (ht : tags.getD i 0 = 2 ∨ tags.getD i 0 = 3) :
    stepD P Hp (tags.getD i 0) v o.op tm H K = aop P tm H o.op (fun r H' => (tags.getD i 0 = 3 → Hp.le H') ∧ K r H') := by
  rcases ht with e | e
  · rw [e]
    show aop P tm H o.op K = _
    congr 1; funext r H'; simp
  · rw [e]
    show aop P tm H o.op (fun r H' => Hp.le H' ∧ K r H') = _
    congr 1; funext r H'; simp

def TagsOk (qs tags : List Nat) (x : Oper × Nat) : Prop :=
  (isWq qs x.2 x.1.op = false → isLook (tags.getD x.2 0)) ∧ (isWq qs x.2 x.1.op = true → tags.getD x.2 0 = 2 ∨ tags.getD x.2 0 = 3)

theorem quietO_congr {Hp : AHeap} {tm tm' : Nat → AV} {o : Op} {v : AV} (h : ∀ x ∈ o.operands, ev tm x = ev tm' x) : quietO P Hp tm o v = quietO P Hp tm' o v := by
  cases o <;> try rfl
  rename_i c
  obtain ⟨callee, args, ts⟩ := c
  cases callee with
  | value f =>
    have hf := h f (by simp [Op.operands, Call.operands])
    have ha : args.toList.map (ev tm) = args.toList.map (ev tm') := List.map_congr_left fun x hx => h x (by simp [Op.operands, Call.operands]; right; simpa using hx)
    simp only [quietO, hf, ha]
  | _ => rfl

theorem val_congr {Hp H H' : AHeap} {t : Nat} {v r : AV} {tm tm' : Nat → AV} {o : Op} (ht : isLook t) (h : ∀ x ∈ o.operands, ev tm x = ev tm' x) (hH : t = 0 → H' = H ∨ isLd o = false) : Val P Hp H' t v tm o r ↔ Val P Hp H t v tm' o r := by
  rcases ht with rfl | rfl | rfl
  · show pureA P H' tm o = some r ↔ pureA P H tm' o = some r
    rw [pureA_congr h]
    rcases hH rfl with e | e
    · rw [e]
    · rw [pureA_heap e]
  · show pureA P Hp tm o = some r ↔ pureA P Hp tm' o = some r
    rw [pureA_congr h]
  · show quietO P Hp tm o v ∧ r = v ↔ quietO P Hp tm' o v ∧ r = v
    rw [quietO_congr h]
theorem val_same {qs : List Nat} {ops : List Oper} {tags : List Nat} {Hp H H' : AHeap} {x y : Oper × Nat} {tm : Nat → AV} {r u v : AV} (hc : Comm qs ops tags x y) (hH : isWq qs x.2 x.1.op = false → H' = H) (ht : isLook (tags.getD y.2 0)) :
    Val P Hp H' (tags.getD y.2 0) u (updO tm x.1.dst r) y.1.op v ↔ Val P Hp H (tags.getD y.2 0) u tm y.1.op v := by
  refine val_congr ht (ops_upd hc.a1) fun e => ?_
  cases hx : isWq qs x.2 x.1.op with
  | false => exact .inl (hH hx)
  | true => exact .inr (hc.r1 hx e)

theorem ahead_pure {qs : List Nat} {qv : Nat → AV} {ops : List Oper} {tags : List Nat} {Hp : AHeap} {K : (Nat → AV) → AHeap → Prop} {y : Oper × Nat} (hyw : isWq qs y.2 y.1.op = false) (hy : TagsOk qs tags y) {post : List (Oper × Nat)} {g : Bool} {r : AV} :
    ∀ (pre : List (Oper × Nat)) (tm : Nat → AV) (H : AHeap), (∀ x ∈ pre, Comm qs ops tags x y ∧ TagsOk qs tags x) → gA ops tm y.1.guard = some g → (g = true → Val P Hp H (tags.getD y.2 0) (qvd qv y.1.dst) tm y.1.op r) → (g = false → r = .lit undef) →
    aopsD P ops tags qv Hp (pre ++ y :: post) tm H K → aopsD P ops tags qv Hp (pre ++ post) (updO tm y.1.dst r) H K := by
  intro pre
  induction pre with
  | nil =>
    intro tm H _ hg hv hu hk
    simp only [List.nil_append] at hk ⊢
    unfold aopsD at hk
    rw [hg] at hk
    simp only at hk
    cases g with
    | true =>
      obtain ⟨r', h1, h2⟩ := (stepD_val (hy.1 hyw)).1 (hk.1 rfl)
      rw [(hv rfl).unique h1]
      exact h2
    | false => rw [hu rfl]; exact hk.2 rfl
  | cons x pre ih =>
    intro tm H hc hg hv hu hk
    obtain ⟨hcx, htx⟩ := hc x (by simp)
    simp only [List.cons_append] at hk ⊢
    unfold aopsD at hk ⊢
    rw [gA_upd hcx.a3]
    cases hgx : gA ops tm x.1.guard with
    | none => rw [hgx] at hk; exact hk
    | some gx =>
      rw [hgx] at hk
      simp only at hk ⊢
      have go : ∀ (q : AV) (H' : AHeap), (isWq qs x.2 x.1.op = false → H' = H) → aopsD P ops tags qv Hp (pre ++ y :: post) (updO tm x.1.dst q) H' K → aopsD P ops tags qv Hp (pre ++ post) (updO (updO tm y.1.dst r) x.1.dst q) H' K := by
        intro q H' hH hq
        rw [updO_comm (fun k hk e => hcx.a2 k e hk)]
        exact ih _ H' (fun z hz => hc z (by simp [hz])) (by rw [gA_upd hcx.a1]; exact hg) (fun e => (val_same hcx hH (hy.1 hyw)).2 (hv e)) hu hq
      refine ⟨fun e => ?_, fun e => go _ H (fun _ => rfl) (hk.2 e)⟩
      have h1 := hk.1 e
      cases hxw : isWq qs x.2 x.1.op with
      | true =>
        rw [stepD_w (htx.2 hxw)] at h1 ⊢
        rw [aop_congr (ops_upd hcx.a3)]
        exact aop_mono (fun q H' hq => ⟨hq.1, go q H' (fun e => by rw [hxw] at e; cases e) hq.2⟩) h1
      | false =>
        obtain ⟨q, h1, h2⟩ := (stepD_val (htx.1 hxw)).1 h1
        exact (stepD_val (htx.1 hxw)).2 ⟨q, (val_congr (htx.1 hxw) (ops_upd hcx.a3) (fun _ => .inl rfl)).2 h1, go q H (fun _ => rfl) h2⟩

theorem ahead_w {qs : List Nat} {qv : Nat → AV} {ops : List Oper} {tags : List Nat} {Hp : AHeap} {K : (Nat → AV) → AHeap → Prop} {y : Oper × Nat} (hyw : isWq qs y.2 y.1.op = true) (hy : TagsOk qs tags y) {post : List (Oper × Nat)} :
    ∀ (pre : List (Oper × Nat)) (tm : Nat → AV) (H : AHeap), (∀ x ∈ pre, Comm qs ops tags x y ∧ TagsOk qs tags x) → aopsD P ops tags qv Hp (pre ++ y :: post) tm H K →
    ∃ g, gA ops tm y.1.guard = some g ∧ (g = true → aop P tm H y.1.op (fun r H' => (tags.getD y.2 0 = 3 → Hp.le H') ∧ aopsD P ops tags qv Hp (pre ++ post) (updO tm y.1.dst r) H' K)) ∧
      (g = false → aopsD P ops tags qv Hp (pre ++ post) (updO tm y.1.dst (.lit undef)) H K) := by
  intro pre
  induction pre with
  | nil =>
    intro tm H _ hk
    simp only [List.nil_append] at hk ⊢
    unfold aopsD at hk
    cases hg : gA ops tm y.1.guard with
    | none => rw [hg] at hk; exact hk.elim
    | some g =>
      rw [hg] at hk
      refine ⟨g, rfl, fun e => ?_, fun e => hk.2 e⟩
      have := hk.1 e
      rwa [stepD_w (hy.2 hyw)] at this
  | cons x pre ih =>
    intro tm H hc hk
    obtain ⟨hcx, htx⟩ := hc x (by simp)
    have hxw : isWq qs x.2 x.1.op = false := by
      cases h : isWq qs x.2 x.1.op with
      | false => rfl
      | true => exact absurd ⟨h, hyw⟩ hcx.w
    have hlk := htx.1 hxw
    simp only [List.cons_append] at hk ⊢
    unfold aopsD at hk
    cases hgx : gA ops tm x.1.guard with
    | none => rw [hgx] at hk; exact hk.elim
    | some gx =>
      rw [hgx] at hk
      simp only at hk
      obtain ⟨q, hq, hq1, hq0⟩ : ∃ q, aopsD P ops tags qv Hp (pre ++ y :: post) (updO tm x.1.dst q) H K ∧ (gx = true → Val P Hp H (tags.getD x.2 0) (qvd qv x.1.dst) tm x.1.op q) ∧ (gx = false → q = .lit undef) := by
        cases gx with
        | true =>
          obtain ⟨q, h1, h2⟩ := (stepD_val hlk).1 (hk.1 rfl)
          exact ⟨q, h2, fun _ => h1, fun e => by cases e⟩
        | false => exact ⟨_, hk.2 rfl, fun e => (by cases e), fun _ => rfl⟩
      obtain ⟨g, hg, h1, h0⟩ := ih _ H (fun z hz => hc z (by simp [hz])) hq
      rw [gA_upd hcx.a1] at hg
      have back : ∀ (r : AV) (H' : AHeap), aopsD P ops tags qv Hp (pre ++ post) (updO (updO tm x.1.dst q) y.1.dst r) H' K → aopsD P ops tags qv Hp (x :: (pre ++ post)) (updO tm y.1.dst r) H' K := by
        intro r H' hr
        unfold aopsD
        rw [gA_upd hcx.a3, hgx]
        simp only
        rw [updO_comm (fun k hk e => hcx.a2 k hk e)] at hr
        refine ⟨fun e => ?_, fun e => by rw [← hq0 e]; exact hr⟩
        exact (stepD_val hlk).2 ⟨q, (val_congr hlk (ops_upd hcx.a3) (fun h0 => .inr (hcx.r2 hyw h0))).2 (hq1 e), hr⟩
      refine ⟨g, hg, fun e => ?_, fun e => back _ H (h0 e)⟩
      have h2 := h1 e
      rw [aop_congr (ops_upd hcx.a1)] at h2
      exact aop_mono (fun r H' hr => ⟨hr.1, back r H' hr.2⟩) h2

end
end Go.Sim
