/- Walks and plain laws that the claims of this seat lean on. No condition. -/
import Derived.Test.YtckipeopgimenaaGreatJ3
set_option linter.unusedVariables false
set_option linter.unusedSimpArgs false
namespace Go.Proofs.YtckipeopgimenaaGreat
open Go Go.Sim
section
open Go Go.Sim
set_option maxRecDepth 100000

def stepOk (l m : Line) : Bool := if opensK l.kind = true then decide (m.depth = l.depth + 1) else decide (m.depth ≤ l.depth)
def oneOk (t : List Class) (l : Line) : Bool := numOk t l.kind l.a l.b && inR l.depth 0 5
def depT (t : List Class) : List Line → Bool
  | [] => true
  | l :: r => oneOk t l && ((match r with | [] => !opensK l.kind | m :: _ => stepOk l m) && depT t r)
theorem depT_iff (t : List Class) : ∀ p : List Line, depT t p = true ↔ (∀ i, i < p.length → oneOk t (p.getD i default) = true) ∧ (∀ i, i + 1 < p.length → stepOk (p.getD i default) (p.getD (i + 1) default) = true) ∧ (p ≠ [] → opensK (p.getD (p.length - 1) default).kind = false)
  | [] => by simp [depT]
  | [l] => by
    simp only [depT, Bool.and_eq_true, Bool.not_eq_true']
    constructor
    · rintro ⟨h1, h2, _⟩
      refine ⟨fun i hi => ?_, fun i hi => by simp at hi, fun _ => by simpa using h2⟩
      have : i = 0 := by simp at hi; omega
      subst this; simpa using h1
    · rintro ⟨h1, _, h3⟩
      exact ⟨by simpa using h1 0 (by simp), by simpa using h3 (by simp), trivial⟩
  | l :: m :: r => by
    have ih := depT_iff t (m :: r)
    rw [depT, Bool.and_eq_true, Bool.and_eq_true, ih]
    constructor
    · rintro ⟨h1, h2, h3, h4, h5⟩
      refine ⟨fun i hi => ?_, fun i hi => ?_, fun _ => ?_⟩
      · cases i with
        | zero => simpa using h1
        | succ i => simpa using h3 i (by simpa using hi)
      · cases i with
        | zero => simpa using h2
        | succ i => simpa using h4 i (by simpa using hi)
      · simpa using h5 (by simp)
    · rintro ⟨h1, h2, h3⟩
      refine ⟨by simpa using h1 0 (by simp), by simpa using h2 0 (by simp), fun i hi => by simpa using h1 (i + 1) (by simpa using hi), fun i hi => by simpa using h2 (i + 1) (by simpa using hi), fun _ => by simpa using h3 (by simp)⟩
theorem oneOk_num {t : List Class} {l : Line} (h : oneOk t l = true) : numOk t l.kind l.a l.b = true ∧ inR l.depth 0 5 = true := by
  simpa [oneOk] using h
theorem depT_cons (t : List Class) (l : Line) (r : List Line) : depT t (l :: r) = (oneOk t l && ((match r with | [] => !opensK l.kind | m :: _ => stepOk l m) && depT t r)) := by rw [depT.eq_def]
theorem forest_of (t : List Class) : ∀ (n : Nat) (l : Line) (r : List Line), r.length < n → depT t (l :: r) = true → ∃ (f : Fo) (post : List Line), l :: r = f.flat l.depth ++ post ∧ f.isNil = false ∧ numsF t f l.depth = true ∧ Low l.depth post ∧ depT t post = true := by
  intro n
  induction n with
  | zero => intro l r h; omega
  | succ n ih =>
    intro l r hl h
    rw [depT_cons, Bool.and_eq_true, Bool.and_eq_true] at h
    obtain ⟨h1, h2, h3⟩ := h
    have ⟨a1, a2⟩ := oneOk_num h1
    have el : (⟨l.depth, l.kind, l.a, l.b⟩ : Line) = l := rfl
    cases r with
    | nil =>
      refine ⟨.node l.kind l.a l.b .nil .nil, [], by simp [Fo.flat], rfl, ?_, low_nil _, rfl⟩
      simp only [Bool.not_eq_true'] at h2
      simp [numsF, a1, a2, h2, Fo.isNil]
    | cons m r =>
      have hl' : r.length < n := by simp at hl; omega
      by_cases ho : opensK l.kind = true
      · simp only [stepOk, ho, if_true, decide_eq_true_eq] at h2
        obtain ⟨ks, p1, e1, n1, u1, w1, d1⟩ := ih m r hl' h3
        rw [h2] at e1 u1 w1
        have hlen : p1.length ≤ r.length := by
          have := congrArg List.length e1
          rw [List.length_append, flat_len] at this
          have hs : ks.size ≠ 0 := by
            cases ks with
            | nil => simp [Fo.isNil] at n1
            | node => simp [Fo.size]
          simp at this
          omega
        cases p1 with
        | nil =>
          refine ⟨.node l.kind l.a l.b ks .nil, [], by rw [e1]; simp [Fo.flat], rfl, ?_, low_nil _, rfl⟩
          simp [numsF, a1, a2, ho, n1, u1]
        | cons x y =>
          have hx := w1 x y rfl
          by_cases hx2 : x.depth = l.depth
          · obtain ⟨rs, p2, e2, n2, u2, w2, d2⟩ := ih x y (by simp at hlen; omega) d1
            rw [hx2] at e2 u2 w2
            refine ⟨.node l.kind l.a l.b ks rs, p2, by rw [e1, e2]; simp [Fo.flat], rfl, ?_, w2, d2⟩
            simp [numsF, a1, a2, ho, n1, u1, u2]
          · refine ⟨.node l.kind l.a l.b ks .nil, x :: y, by rw [e1]; simp [Fo.flat], rfl, ?_, fun l' r' e => ?_, d1⟩
            · simp [numsF, a1, a2, ho, n1, u1]
            · injection e with e3 e4
              rw [← e3]; omega
      · have ho' : opensK l.kind = false := by simpa using ho
        simp only [stepOk, ho', Bool.false_eq_true, if_false, decide_eq_true_eq] at h2
        by_cases hx2 : m.depth = l.depth
        · obtain ⟨rs, p2, e2, n2, u2, w2, d2⟩ := ih m r hl' h3
          rw [hx2] at e2 u2 w2
          refine ⟨.node l.kind l.a l.b .nil rs, p2, by rw [e2]; simp [Fo.flat], rfl, ?_, w2, d2⟩
          simp [numsF, a1, a2, ho', Fo.isNil, u2]
        · refine ⟨.node l.kind l.a l.b .nil .nil, m :: r, by simp [Fo.flat], rfl, ?_, fun l' r' e => ?_, h3⟩
          · simp [numsF, a1, a2, ho', Fo.isNil]
          · injection e with e3 e4
            rw [← e3]; omega
/-- Lines that follow each other as they may are a tree of lines. -/
theorem forest_top {t : List Class} {p : List Line} (h : depT t p = true) (h0 : p ≠ [] → (p.getD 0 default).depth = 0) : ∃ f : Fo, p = f.flat 0 ∧ numsF t f 0 = true := by
  cases p with
  | nil => exact ⟨.nil, rfl, rfl⟩
  | cons l r =>
    have hd : l.depth = 0 := by simpa using h0 (by simp)
    obtain ⟨f, post, e1, _, u1, w1, d1⟩ := forest_of t (r.length + 1) l r (by omega) h
    rw [hd] at e1 u1 w1
    cases post with
    | nil => exact ⟨f, by simpa using e1, u1⟩
    | cons x y =>
      have := w1 x y rfl
      rw [depT_cons, Bool.and_eq_true] at d1
      have := (oneOk_num d1.1).2
      simp only [inR, Bool.and_eq_true, decide_eq_true_eq] at this
      omega
theorem depT_flat {t : List Class} : ∀ (f : Fo) (d : Int) (post : List Line), numsF t f d = true → Low (d + 1) post → depT t post = true → depT t (f.flat d ++ post) = true
  | .nil, d, post, _, _, h => h
  | .node k a b kids rest, d, post, hn, hl, h => by
    obtain ⟨n1, n2, n3, n4, n5⟩ := numsF_node hn
    have hr := depT_flat rest d post n5 hl h
    have hlr : Low (d + 1) (rest.flat d ++ post) := by
      cases rest with
      | nil => exact hl
      | node k' a' b' x y =>
        intro l r e
        simp only [Fo.flat, List.cons_append] at e
        injection e with e1 e2
        rw [← e1]; show d < d + 1; omega
    have hk := depT_flat kids (d + 1) (rest.flat d ++ post) n4 (fun l r e => by have := hlr l r e; omega) hr
    have e : (Fo.node k a b kids rest).flat d ++ post = ⟨d, k, a, b⟩ :: (kids.flat (d + 1) ++ (rest.flat d ++ post)) := by simp [Fo.flat]
    rw [e, depT_cons, hk, Bool.and_true]
    have h1 : oneOk t ⟨d, k, a, b⟩ = true := by simp [oneOk, n1, n2]
    rw [h1, Bool.true_and]
    cases kids with
    | nil =>
      have ho : opensK k = false := by simpa [Fo.isNil] using n3
      simp only [Fo.flat, List.nil_append]
      cases hq : rest.flat d ++ post with
      | nil => simp [ho]
      | cons m r =>
        have := hlr m r hq
        simp only [stepOk, ho, Bool.false_eq_true, if_false, decide_eq_true_eq]
        omega
    | node k' a' b' x y =>
      have ho : opensK k = true := by simpa [Fo.isNil] using n3
      simp only [Fo.flat, List.cons_append, stepOk, ho, if_true, decide_eq_true_eq]
theorem flat_inj : ∀ (f g : Fo) (d : Int) (p q : List Line), f.flat d ++ p = g.flat d ++ q → Low d p → Low d q → f = g ∧ p = q
  | .nil, .nil, d, p, q, h, _, _ => ⟨rfl, h⟩
  | .nil, .node k a b x y, d, p, q, h, hp, _ => by
    simp only [Fo.flat, List.nil_append, List.cons_append] at h
    have := hp _ _ h
    exact absurd this (by show ¬ d < d; omega)
  | .node k a b x y, .nil, d, p, q, h, _, hq => by
    simp only [Fo.flat, List.nil_append, List.cons_append] at h
    have := hq _ _ h.symm
    exact absurd this (by show ¬ d < d; omega)
  | .node k a b x y, .node k' a' b' x' y', d, p, q, h, hp, hq => by
    simp only [Fo.flat, List.cons_append, List.append_assoc] at h
    injection h with h1 h2
    injection h1 with _ e1 e2 e3
    subst e1; subst e2; subst e3
    obtain ⟨rfl, h3⟩ := flat_inj x x' (d + 1) _ _ h2 (low_flat hp) (low_flat hq)
    obtain ⟨rfl, h4⟩ := flat_inj y y' d p q h3 hp hq
    exact ⟨rfl, h4⟩
theorem flat_one {f g : Fo} {d : Int} (h : f.flat d = g.flat d) : f = g := (flat_inj f g d [] [] (by simp [h]) (low_nil _) (low_nil _)).1
/-- The lines ahead of one, the nearest one first. -/
def upto (p : List Line) (i : Nat) : List Line := (p.take i).reverse
theorem upto_succ {p : List Line} {i : Nat} (h : i < p.length) : upto p (i + 1) = p.getD i default :: upto p i := by
  unfold upto
  rw [List.take_succ_eq_append_getElem h, List.reverse_append, List.getD_eq_getElem?_getD, List.getElem?_eq_getElem h]; rfl
def inLoopR : Int → List Line → Bool
  | _, [] => false
  | d, x :: r => if x.depth < d then decide (x.kind = 12) || inLoopR x.depth r else inLoopR d r
def headR : Int → List Line → Option Line
  | _, [] => none
  | d, x :: r => if x.depth < d then none else if x.depth = d then some x else headR d r
def headOkR (o : Option Line) : Bool := match o with | none => false | some x => decide (x.kind = 7) || followsK x.kind
theorem loop_skip {d : Int} : ∀ (l r : List Line), (∀ x ∈ l, d ≤ x.depth) → inLoopR d (l ++ r) = inLoopR d r
  | [], r, _ => rfl
  | x :: l, r, h => by
    have hx := h x (by simp)
    simp only [List.cons_append, inLoopR]
    rw [if_neg (by omega)]
    exact loop_skip l r fun y hy => h y (by simp [hy])
theorem head_skip {d : Int} : ∀ (l r : List Line), (∀ x ∈ l, d < x.depth) → headR d (l ++ r) = headR d r
  | [], r, _ => rfl
  | x :: l, r, h => by
    have hx := h x (by simp)
    simp only [List.cons_append, headR]
    rw [if_neg (by omega), if_neg (by omega)]
    exact head_skip l r fun y hy => h y (by simp [hy])
/-- A line stands as it may, among its lines. -/
def stOk (p : List Line) (i : Nat) : Bool :=
  (!decide ((p.getD i default).kind = 7) || tryOkF (kindsP p (tailQ p (p.getD i default).depth (endP p i)))) &&
  ((!(decide ((p.getD i default).kind = 5) || decide ((p.getD i default).kind = 6)) || inLoopR (p.getD i default).depth (upto p i)) &&
   (!followsK (p.getD i default).kind || headOkR (headR (p.getD i default).depth (upto p i))))
theorem upto_add {p : List Line} {i : Nat} {d : Int} {f : Fo} (h : At p i d f) : upto p (i + f.size) = (f.flat d).reverse ++ upto p i := by
  obtain ⟨pre, post, rfl, rfl, _⟩ := h
  unfold upto
  have e1 : (pre ++ (f.flat d ++ post)).take (pre.length + f.size) = pre ++ f.flat d := by
    rw [← List.append_assoc, ← flat_len f d, ← List.length_append, List.take_left]
  have e2 : (pre ++ (f.flat d ++ post)).take pre.length = pre := List.take_left
  rw [e1, e2, List.reverse_append]
theorem all_range {i j : Nat} {p : Nat → Prop} : (∀ x, i ≤ x → x < i + 1 + j → p x) ↔ p i ∧ ∀ x, i + 1 ≤ x → x < i + 1 + j → p x := by
  constructor
  · exact fun h => ⟨h i (by omega) (by omega), fun x h1 h2 => h x (by omega) h2⟩
  · rintro ⟨h1, h2⟩ x h3 h4
    rcases Nat.lt_or_ge i x with q | q
    · exact h2 x (by omega) h4
    · rw [show x = i by omega]; exact h1
theorem all_split {i a b : Nat} {p : Nat → Prop} : (∀ x, i ≤ x → x < i + (a + b) → p x) ↔ (∀ x, i ≤ x → x < i + a → p x) ∧ ∀ x, i + a ≤ x → x < i + a + b → p x := by
  constructor
  · exact fun h => ⟨fun x h1 h2 => h x h1 (by omega), fun x h1 h2 => h x (by omega) (by omega)⟩
  · rintro ⟨h1, h2⟩ x h3 h4
    rcases Nat.lt_or_ge x (i + a) with q | q
    · exact h1 x h3 q
    · exact h2 x q (by omega)
theorem st_ok {t : List Class} {p : List Line} : ∀ (f : Fo) (i : Nat) (d : Int) (lp m : Bool), At p i d f → numsF t f d = true → inLoopR d (upto p i) = lp → headOkR (headR d (upto p i)) = m → ((∀ x, i ≤ x → x < i + f.size → stOk p x = true) ↔ okF f lp m = true)
  | .nil, i, d, lp, m, h, _, _, _ => by
    simp only [okF, Fo.size]
    exact ⟨fun _ => trivial, fun _ x h1 h2 => absurd h2 (by omega)⟩
  | .node k a b kids rest, i, d, lp, m, h, hn, hlp, hm => by
    obtain ⟨n1, n2, n3, n4, n5⟩ := numsF_node hn
    have hh := h.head
    have eu : upto p (i + 1) = ⟨d, k, a, b⟩ :: upto p i := by rw [upto_succ hh.1, hh.2]
    have eu2 : upto p (i + 1 + kids.size) = (kids.flat (d + 1)).reverse ++ ⟨d, k, a, b⟩ :: upto p i := by rw [upto_add h.kids, eu]
    have l1 : inLoopR (d + 1) (upto p (i + 1)) = (decide (k = 12) || lp) := by
      rw [eu]; simp only [inLoopR]; rw [if_pos (by omega), hlp]
    have m1 : headOkR (headR (d + 1) (upto p (i + 1))) = false := by
      rw [eu]; simp only [headR]; rw [if_pos (by omega)]; rfl
    have l2 : inLoopR d (upto p (i + 1 + kids.size)) = lp := by
      rw [eu2, loop_skip _ _ (fun x hx => by have := flat_deep kids (d + 1) x (by simpa using hx); omega)]
      simp only [inLoopR]; rw [if_neg (by omega), hlp]
    have m2 : headOkR (headR d (upto p (i + 1 + kids.size))) = (decide (k = 7) || followsK k) := by
      rw [eu2, head_skip _ _ (fun x hx => by have := flat_deep kids (d + 1) x (by simpa using hx); omega)]
      simp only [headR]; rw [if_neg (by omega), if_true]; rfl
    have ik := st_ok kids (i + 1) (d + 1) _ _ h.kids n4 l1 m1
    have ir := st_ok rest (i + 1 + kids.size) d _ _ h.rest n5 l2 m2
    have e1 : (∀ x, i ≤ x → x < i + (Fo.node k a b kids rest).size → stOk p x = true) ↔ (stOk p i = true ∧ (∀ x, i + 1 ≤ x → x < i + 1 + kids.size → stOk p x = true) ∧ ∀ x, i + 1 + kids.size ≤ x → x < i + 1 + kids.size + rest.size → stOk p x = true) := by
      have e : i + (Fo.node k a b kids rest).size = i + 1 + (kids.size + rest.size) := by simp only [Fo.size]; omega
      rw [e, all_range, all_split]
    rw [e1, ik, ir]
    have es : stOk p i = ((!decide (k = 7) || tryOkF (headsK rest)) && ((!(decide (k = 5) || decide (k = 6)) || lp) && (!followsK k || m))) := by
      unfold stOk
      rw [hh.2]
      simp only
      rw [hlp, hm, h.endP]
      have : tailQ p d (i + 1 + kids.size) = chainN rest (i + 1 + kids.size) := tailP_at rest _ _ d h.rest (by omega)
      rw [this, kindsP_chain rest _ h.rest]
    rw [es]
    have kn : opensK k = false → kids = .nil := by
      intro q
      rw [q] at n3
      cases kids with
      | nil => rfl
      | node => simp [Fo.isNil] at n3
    simp only [okF]
    by_cases hf : followsK k = true
    · have hf' := hf
      simp only [followsK, inR, Bool.and_eq_true, decide_eq_true_eq] at hf'
      have c7 : ¬ k = 7 := by omega
      have c5 : ¬ k = 5 := by omega
      have c6 : ¬ k = 6 := by omega
      have c12 : ¬ k = 12 := by omega
      simp [hf, c7, c5, c6, c12]
    · have hf2 : followsK k = false := by simpa using hf
      by_cases c56 : k = 5 ∨ k = 6
      · have hk : kids = .nil := kn (by rcases c56 with q | q <;> subst q <;> rfl)
        have c7 : ¬ k = 7 := by omega
        have c56' : (decide (k = 5) || decide (k = 6)) = true := by simpa using c56
        subst hk
        simp [hf2, c56, c7, c56', okF]
      · have c5 : ¬ k = 5 := fun q => c56 (.inl q)
        have c6 : ¬ k = 6 := fun q => c56 (.inr q)
        by_cases c7 : k = 7
        · subst c7
          simp [hf2, Bool.and_assoc]
        · by_cases c11 : k = 11
          · subst c11
            simp [hf2]
          · by_cases c12 : k = 12
            · subst c12
              simp [hf2]
            · have hk : kids = .nil := kn (by
                cases q : opensK k with
                | false => rfl
                | true =>
                  simp only [opensK, inR, Bool.and_eq_true, decide_eq_true_eq] at q
                  simp only [followsK, inR, Bool.and_eq_false_iff, decide_eq_false_iff_not] at hf2
                  omega)
              subst hk
              simp [hf2, c5, c6, c7, c11, c12, okF]
end
section
set_option maxRecDepth 100000
attribute [local go_sem ↓] aw_skip aw_ret aw_exit aw_region aw_draw aw_seq aw_block aw_loop aw_cond frz_nil frz_cons sq_normal sq_ret sq_exit exB_normal exB_ret exB_same exB_other retQ_ret retQ_normal ret0_ret ret0_normal ao_nil go1 g_move g_assign g_pick g_build g_load g_binOp g_unOp g_convert g_fieldAddr g_field g_indexAddr g_index g_extract g_lookup g_slice g_nilCheck g_len g_makeFunc h_call h_append h_alloc h_box h_buildSlice h_makeSlice h_store gV i_box i_buildSlice i_move i_assign i_build i_load i_binOp i_unOp i_convert i_fieldAddr i_field i_indexAddr i_index i_extract i_lookup i_makeMap i_mapUpdate i_slice i_nilCheck i_makeFunc i_len i_max i_min i_alloc i_makeSlice i_store i_append i_call i_pick boxI boxA buildSliceI buildSliceA makeSliceA makeMapA allocA storeA p_move p_assign p_pick p_build p_load p_binOp p_unOp p_convert p_fieldAddr p_field p_indexAddr p_index p_extract p_lookup p_makeMap p_mapUpdate p_slice p_nilCheck p_makeFunc p_len p_max p_min p_alloc p_box p_buildSlice p_makeSlice p_store p_append p_call x_nil x_go1 x_g0 x_g1 x_g2 x_g3 x_s0 x_s1 x_s2 x_s3 u_move u_assign u_pick u_build u_load u_binOp u_unOp u_convert u_fieldAddr u_field u_indexAddr u_index u_extract u_lookup u_slice u_nilCheck u_makeFunc u_len u_buildSlice x_s4 x_g4 rq_normal rq_ret rq_exit aw_range
attribute [local go_sem] frzV_sl frzK_some set_none set_other AHeap.set_self set_del set_set cnd_t cnd_f cnd_b retA_one retA_two retA_three retA_four retA_nil gIf_b mrgV_b mrgV_wh mrgV_U gIf_U gIf_wh mrgB_f mrgB_some mrgB_if wh_true wh_false keepA_some keepA_if gD_zero gD_succ gT_some bxA_t bxA_f callA_fn ev_tmp ev_const ev_global ev_func oc_bool oc_int oc_string oc_nil oc_nilptr oc_nilfunc cl_bool cl_int cl_string cl_nil updO_some updO_none upd_same upd_other init_at pickA_b pickA_wh selA_t selA_f selA_and selA_or selA_orn selA_orm selA_bb selA_ii beqt b_add b_sub b_mul b_and b_or b_xor b_eql b_neq b_lss b_leq b_gtr b_geq b_quo b_rem b_shr b_seql b_sneq b_sadd b_beql b_bneq b_aeql b_aneq u_not u_neg isConstOp eqA eqCellV List.getD_cons_zero List.getD_cons_succ List.map_cons List.map_nil List.nil_append List.cons_append List.append_nil if_true if_false Option.map_some Option.map_none ne_eq not_false_eq_true oneA ldv ld1v ld1s wr1s ldRow stRow row_lit row_agg row_vsl row_sl row_ptr row_fn one_I one_B one_S one_vsl one_sl one_ptr one_fn extractA okA rI rS rU rClass rFault rExit rStart rLine Int.toNat_natCast List.length_cons List.length_nil List.length_map List.all_cons List.all_nil Bool.and_true Nat.zero_add List.getElem?_cons_zero List.getElem?_cons_succ List.take_succ_cons List.take_zero List.drop_succ_cons List.drop_zero and_self true_and and_true implies_true decide_eq_true_eq decide_eq_false_iff_not Bool.or_eq_true Bool.or_eq_false_iff Bool.and_eq_true Bool.not_eq_true' Bool.not_eq_false' beq_false decide_true decide_false Int.ofNat_lt Int.ofNat_le Int.natCast_nonneg Bool.or_true Bool.or_false Bool.true_or Bool.false_or beq_self_eq_true List.drop_one Bool.not_true Bool.not_false Bool.not_not Bool.false_eq_true Bool.true_eq_false false_implies true_implies Bool.true_and Bool.false_and Bool.and_false not_true_eq_false Int.natCast_eq_zero Int.natCast_pos Int.natCast_zero false_and and_false or_false false_or or_true true_or Bool.or_self none_le_iff List.replicate_zero Int.toNat_zero List.replicate_succ buildRows List.set_cons_zero List.set_cons_succ List.set_nil List.mapM_nil maxLen_eq Nat.zero_le Nat.mul_one Nat.one_mul bldA fillA spliceA List.take_nil List.drop_nil List.getElem?_nil ld1o wr1o bldSliceA le_same cv_i cvI_t quietT_fn qvd_some ld_o ldO_1 ldO_l wr_o wrO_1 set_2 set_3 set_4 putL_nil putL_cons List.zip_cons_cons List.zip_nil_left List.zip_nil_right List.toList_toArray frzV_set ti1 ti2 tk2 ti3 te3 ts3 tk3 tz3 ti4 tb4 ti5 tk5 tz5 ti9 te9 ts9 tk9 tz9 ti12 tk12 ti13 tp13 tf13_0 tf13_1 ti20 ti21 tk21 tz21 ti22 te22 tz22 ti23 te23 ti24 tp24 tf24_0 ti25 tp25 tf25_0 ti26 te26 ti28 ti29 te29 ti30 te30 ti31 tp31 tf31_0 ti32 tp32 tf32_0 ti33 tp33 tf33_0 tf33_1 tf33_2 tf33_3 ti34 tp34 tf34_0 tf34_1 tf34_2 tf34_3 ti35 ti36 ti37 ti38 ti40 ti42 ti43 ti44 tq44 tp44 tf44_0 tf44_1 tf44_2 ti45 tq45 tp45 tf45_0 tf45_1 tf45_2 ti47 ti48 ti49 tq49 tp49 tf49_0 tf49_1 tf49_2 tf49_3 ti50 tq50 tp50 tf50_0 tf50_1 tf50_2 tf50_3 ti51 ti52 ti54 ti55 ti56 ti57 te57 ti59 ti60 ti61 ti62 ti63 ti64 ti65 ti66 ti67 ti68 tq68 tp68 tf68_0 tf68_1 ti69 tq69 tp69 tf69_0 tf69_1 ti70 ti71 ti72 ti73 ti74 ti75 ti77 ti78 ti79 ti80 ti81 ti82 ti83 ti84 ti85 tq85 tp85 tf85_0 tf85_1 tf85_2 tf85_3 tf85_4 ti86 tq86 tp86 tf86_0 tf86_1 tf86_2 tf86_3 tf86_4 ti87 ti88 ti89 ti90 ti91 ti93 ti94 ti95 ti96 ti97 tq97 tp97 tf97_0 tf97_1 tf97_2 ti98 tq98 tp98 tf98_0 tf98_1 tf98_2 ti99 ti100 ti101 ti102 ti103 ti104 ti105 ti106 ti107 tp107 tf107_0 tf107_1 ti108 tp108 tf108_0 tf108_1 ti109 tp109 tf109_0 tf109_1 tf109_2 tf109_3 tf109_4 ti110 tp110 tf110_0 tf110_1 tf110_2 tf110_3 tf110_4 ti111 ti113 ti114 ti115 ti116 ti117 ti118 ti119 ti120 tp120 tf120_0 tf120_1 tf120_2 tf120_3 ti121 tp121 tf121_0 tf121_1 tf121_2 tf121_3 ti122 tq122 tp122 tf122_0 tf122_1 ti123 tq123 tp123 tf123_0 tf123_1 ti124 ti125 ti126 tq126 tp126 tf126_0 tf126_1 ti127 tq127 tp127 tf127_0 tf127_1 ti128 ti129 ti130 ti131 ti132 ti133 te133 ti134 ti135 ti136 ti137 ti138 ti139 ti140 ti141 ti142 ti143 ti144 tp144 tf144_0 tf144_1 tf144_2 ti145 tp145 tf145_0 tf145_1 tf145_2 ti146 ti147 ti148 ti149 ti150 te150 ti151 ti152 ti153 ti154 ti155 ti156 ti157 ti158 ti159 ti160 ti161 ti162 ti163 ti164 ti165 ti166 ti167 ti168 ti169 ti170 ti171 ti172 ti173 ti174 ti175 tk175 tz175 ti176 ti177 ti178 ti179 ti180 tk180 ti182 ti183 ti184 ti186 ti187 ti188 tk188 tz188 ti189 ti190 tk190 tz190 ti191 tk191 ti192 ti193 ti194 ti195 ti196 ti197 ti199 ti200 ti206 ti210 ti215 fp13_0 fv13_0 fp13_1 fv13_1 fp24_0 fv24_0 fp25_0 fv25_0 fp31_0 fv31_0 fp32_0 fv32_0 fp33_0 fv33_0 fp33_1 fv33_1 fp33_2 fv33_2 fp33_3 fv33_3 fp34_0 fv34_0 fp34_1 fv34_1 fp34_2 fv34_2 fp34_3 fv34_3 fp44_0 fv44_0 fp44_1 fv44_1 fp44_2 fv44_2 fp45_0 fv45_0 fp45_1 fv45_1 fp45_2 fv45_2 fp49_0 fv49_0 fp49_1 fv49_1 fp49_2 fv49_2 fp49_3 fv49_3 fp50_0 fv50_0 fp50_1 fv50_1 fp50_2 fv50_2 fp50_3 fv50_3 fp68_0 fv68_0 fp68_1 fv68_1 fp69_0 fv69_0 fp69_1 fv69_1 fp85_0 fv85_0 fp85_1 fv85_1 fp85_2 fv85_2 fp85_3 fv85_3 fp85_4 fv85_4 fp86_0 fv86_0 fp86_1 fv86_1 fp86_2 fv86_2 fp86_3 fv86_3 fp86_4 fv86_4 fp97_0 fv97_0 fp97_1 fv97_1 fp97_2 fv97_2 fp98_0 fv98_0 fp98_1 fv98_1 fp98_2 fv98_2 fp107_0 fv107_0 fp107_1 fv107_1 fp108_0 fv108_0 fp108_1 fv108_1 fp109_0 fv109_0 fp109_1 fv109_1 fp109_2 fv109_2 fp109_3 fv109_3 fp109_4 fv109_4 fp110_0 fv110_0 fp110_1 fv110_1 fp110_2 fv110_2 fp110_3 fv110_3 fp110_4 fv110_4 fp120_0 fv120_0 fp120_1 fv120_1 fp120_2 fv120_2 fp120_3 fv120_3 fp121_0 fv121_0 fp121_1 fv121_1 fp121_2 fv121_2 fp121_3 fv121_3 fp122_0 fv122_0 fp122_1 fv122_1 fp123_0 fv123_0 fp123_1 fv123_1 fp126_0 fv126_0 fp126_1 fv126_1 fp127_0 fv127_0 fp127_1 fv127_1 fp144_0 fv144_0 fp144_1 fv144_1 fp144_2 fv144_2 fp145_0 fv145_0 fp145_1 fv145_1 fp145_2 fv145_2 lv22 ll22 is22 ix22 sh22 so22 sb22 sm22 sp22 lv23 ll23 is23 ix23 sh23 so23 sb23 sm23 sp23 lv26 ll26 is26 ix26 sh26 so26 sb26 sm26 sp26 lv29 ll29 is29 ix29 sh29 so29 sb29 sm29 sp29 lv30 ll30 is30 ix30 sh30 so30 sb30 sm30 sp30 lv57 ll57 is57 ix57 sh57 so57 sb57 sm57 sp57 lv133 ll133 is133 sp133 lv150 ll150 is150 ix150 sh150 so150 sb150 sm150 sp150 xs9 ls9 sx9 sy9 sz9
section
open Go Go.Sim
set_option maxRecDepth 100000
set_option maxHeartbeats 4000000

theorem c_inLoop (p : List Line) (cl : Bool) (i : Nat) (H : AHeap) (hi : i < p.length) : ACalls Tryz.prog 126 [aProg p cl, I i] H fun r H' => r = B (inLoopR (p.getD i default).depth (upto p i)) ∧ H' = H := by
  refine acalls_len (by kernel_rfl) (List.mem_cons_self ..) fun hl => ?_
  rw [List.length_map] at hl
  refine acalls_of0 Tryz.func126 rfl (by kernel_rfl) rfl rfl (awp_sound (fz := fun _ => []) (im := fun _ => false) mixed _ _ _ _ (by kernel_rfl) ?_)
  simp +contextual -dsimp -implicitDefEqProofs (maxSteps := 5000000) only [go_sem, reduceIte, reduceCtorEq, Nat.reduceEqDiff, Nat.reduceBEq, Nat.reduceAdd, Nat.reduceLeDiff, Nat.reduceMul, Nat.reduceLT, Int.reduceEq, Int.reduceLT, Int.reduceLE, hi]
  refine aloop mixed (fz := fun _ => []) (im := fun _ => false) (by kernel_rfl) (fun m tm H' => ∃ (dd : Int), m ≤ i ∧ H' = H ∧ tm 0 = aProg p cl ∧ tm 5 = I dd ∧ tm 6 = I ((m : Int) - 1) ∧ inLoopR dd (upto p m) = inLoopR (p.getD i default).depth (upto p i)) i ⟨(p.getD i default).depth, Nat.le_refl _, rfl, ?_⟩ ?_
  · simp +contextual -dsimp -implicitDefEqProofs (maxSteps := 5000000) only [go_sem, reduceIte, reduceCtorEq, Nat.reduceEqDiff, Nat.reduceBEq, Nat.reduceAdd, Nat.reduceLeDiff, Nat.reduceMul, Nat.reduceLT, Int.reduceEq, Int.reduceLT, Int.reduceLE]
    exact I_wrap (by omega) (by omega) (by omega)
  · rintro m tm H ⟨dd, hk, rfl, t0, t5, t6, he⟩
    cases m with
    | zero =>
      have z : ¬ (0 : Int) ≤ 0 - 1 := by omega
      simp +contextual -dsimp -implicitDefEqProofs (maxSteps := 5000000) only [go_sem, reduceIte, reduceCtorEq, Nat.reduceEqDiff, Nat.reduceBEq, Nat.reduceAdd, Nat.reduceLeDiff, Nat.reduceMul, Nat.reduceLT, Int.reduceEq, Int.reduceLT, Int.reduceLE, t0, t5, t6, z]
      rw [← he]; rfl
    | succ k =>
      have hkp : k < p.length := by omega
      rw [upto_succ hkp] at he
      simp only [inLoopR] at he
      have e1 : (((k + 1 : Nat) : Int)) - 1 = (k : Int) := by omega
      simp +contextual -dsimp -implicitDefEqProofs (maxSteps := 5000000) only [go_sem, reduceIte, reduceCtorEq, Nat.reduceEqDiff, Nat.reduceBEq, Nat.reduceAdd, Nat.reduceLeDiff, Nat.reduceMul, Nat.reduceLT, Int.reduceEq, Int.reduceLT, Int.reduceLE, t0, t5, t6, e1, hkp]
      refine ⟨fun q => ?_, fun q => ?_⟩
      · rw [if_pos q] at he
        refine ⟨fun q2 => by rw [← he, decide_eq_true q2]; rfl, fun q2 => ⟨k, by omega, _, by omega, rfl, I_wrap (by omega) (by omega) (by omega), ?_⟩⟩
        rw [← he, decide_eq_false q2]; rfl
      · rw [if_neg q] at he
        exact ⟨k, by omega, _, by omega, rfl, I_wrap (by omega) (by omega) (by omega), he⟩
theorem c_headOf (p : List Line) (cl : Bool) (i : Nat) (H : AHeap) (hi : i < p.length) : ACalls Tryz.prog 128 [aProg p cl, I i] H fun r H' => ∃ v : Int, r = I v ∧ H' = H ∧ ((v = -1 ∧ headR (p.getD i default).depth (upto p i) = none) ∨ ∃ k : Nat, v = k ∧ k < p.length ∧ headR (p.getD i default).depth (upto p i) = some (p.getD k default)) := by
  refine acalls_len (by kernel_rfl) (List.mem_cons_self ..) fun hl => ?_
  rw [List.length_map] at hl
  refine acalls_of0 Tryz.func128 rfl (by kernel_rfl) rfl rfl (awp_sound (fz := fun _ => []) (im := fun _ => false) mixed _ _ _ _ (by kernel_rfl) ?_)
  simp +contextual -dsimp -implicitDefEqProofs (maxSteps := 5000000) only [go_sem, reduceIte, reduceCtorEq, Nat.reduceEqDiff, Nat.reduceBEq, Nat.reduceAdd, Nat.reduceLeDiff, Nat.reduceMul, Nat.reduceLT, Int.reduceEq, Int.reduceLT, Int.reduceLE, hi]
  refine aloop mixed (fz := fun _ => []) (im := fun _ => false) (by kernel_rfl) (fun m tm H' => m ≤ i ∧ H' = H ∧ tm 0 = aProg p cl ∧ tm 1 = I i ∧ tm 5 = I ((m : Int) - 1) ∧ headR (p.getD i default).depth (upto p m) = headR (p.getD i default).depth (upto p i)) i ⟨Nat.le_refl _, rfl, ?_⟩ ?_
  · simp +contextual -dsimp -implicitDefEqProofs (maxSteps := 5000000) only [go_sem, reduceIte, reduceCtorEq, Nat.reduceEqDiff, Nat.reduceBEq, Nat.reduceAdd, Nat.reduceLeDiff, Nat.reduceMul, Nat.reduceLT, Int.reduceEq, Int.reduceLT, Int.reduceLE]
    exact I_wrap (by omega) (by omega) (by omega)
  · rintro m tm H ⟨hk, rfl, t0, t1, t5, he⟩
    cases m with
    | zero =>
      have z : ¬ (0 : Int) ≤ 0 - 1 := by omega
      simp +contextual -dsimp -implicitDefEqProofs (maxSteps := 5000000) only [go_sem, reduceIte, reduceCtorEq, Nat.reduceEqDiff, Nat.reduceBEq, Nat.reduceAdd, Nat.reduceLeDiff, Nat.reduceMul, Nat.reduceLT, Int.reduceEq, Int.reduceLT, Int.reduceLE, t0, t1, t5, z]
      exact ⟨-1, rfl, .inl ⟨rfl, he.symm⟩⟩
    | succ k =>
      have hkp : k < p.length := by omega
      rw [upto_succ hkp] at he
      simp only [headR] at he
      have e1 : (((k + 1 : Nat) : Int)) - 1 = (k : Int) := by omega
      simp +contextual -dsimp -implicitDefEqProofs (maxSteps := 5000000) only [go_sem, reduceIte, reduceCtorEq, Nat.reduceEqDiff, Nat.reduceBEq, Nat.reduceAdd, Nat.reduceLeDiff, Nat.reduceMul, Nat.reduceLT, Int.reduceEq, Int.reduceLT, Int.reduceLE, t0, t1, t5, e1, hkp, hi]
      refine draw_intro [0, 0, 0, 0, 0, 0, 0, 0, 0, 0, 0] AHeap.none (by kernel_rfl) none_le ?_
      simp +contextual -dsimp -implicitDefEqProofs (maxSteps := 5000000) only [go_sem, reduceIte, reduceCtorEq, Nat.reduceEqDiff, Nat.reduceBEq, Nat.reduceAdd, Nat.reduceLeDiff, Nat.reduceMul, Nat.reduceLT, Int.reduceEq, Int.reduceLT, Int.reduceLE, t0, t1, t5, e1, hkp, hi]
      refine ⟨fun q => ?_, fun q => ?_⟩
      · rw [if_pos q] at he
        exact ⟨-1, rfl, .inl ⟨rfl, he.symm⟩⟩
      · rw [if_neg q] at he
        refine draw_intro [0, 0, 0, 0, 0, 0, 0, 0, 0, 0, 0] AHeap.none (by kernel_rfl) none_le ?_
        simp +contextual -dsimp -implicitDefEqProofs (maxSteps := 5000000) only [go_sem, reduceIte, reduceCtorEq, Nat.reduceEqDiff, Nat.reduceBEq, Nat.reduceAdd, Nat.reduceLeDiff, Nat.reduceMul, Nat.reduceLT, Int.reduceEq, Int.reduceLT, Int.reduceLE, t0, t1, t5, e1, hkp, hi]
        refine ⟨fun q2 => ?_, fun q2 => ?_⟩
        · rw [if_pos q2] at he
          exact ⟨k, rfl, .inr ⟨k, rfl, hkp, he.symm⟩⟩
        · rw [if_neg q2] at he
          exact ⟨k, by omega, by omega, I_wrap (by omega) (by omega) (by omega), he⟩
/-- A line may come where it comes, by its depth. -/
def relOk (p : List Line) (i : Nat) : Bool := if i = 0 then decide ((p.getD i default).depth = 0) else stepOk (p.getD (i - 1) default) (p.getD i default)
def endOk (p : List Line) (i : Nat) : Bool := !(decide (i + 1 = p.length) && opensK (p.getD i default).kind)
def lineOk (t : List Class) (p : List Line) (i : Nat) : Bool := oneOk t (p.getD i default) && ((relOk p i && endOk p i) && stOk p i)
theorem inR5 {n : Int} (h : inR n 0 5 = true) : 0 ≤ n ∧ n ≤ 5 := by simpa [inR] using h
theorem c_validLine (t : List Class) (cl : Bool) (p : List Line) (cl' : Bool) (i : Nat) (H : AHeap) (hi : i < p.length) (hp : p.length ≤ 4398046511104) (hprev : i ≠ 0 → inR (p.getD (i - 1) default).depth 0 5 = true) :
    ACalls Tryz.prog 81 [aTree t cl, aProg p cl', I i] H fun r H' => r = B (lineOk t p i) ∧ H' = H := by
  refine acalls_of0 Tryz.func81 rfl (by kernel_rfl) rfl rfl (awp_sound (fz := fun r => if r = 1 then [7] else []) (im := fun s => s == 3) mixed _ _ _ _ (by kernel_rfl) ?_)
  simp +contextual -dsimp -implicitDefEqProofs (maxSteps := 5000000) only [go_sem, reduceIte, reduceCtorEq, Nat.reduceEqDiff, Nat.reduceBEq, Nat.reduceAdd, Nat.reduceLeDiff, Nat.reduceMul, Nat.reduceLT, Int.reduceEq, Int.reduceLT, Int.reduceLE, hi]
  intro b7 hb7
  refine (c_validNumbers t cl (p.getD i default) _).det ?_
  have hno : oneOk t (p.getD i default) = (numOk t (p.getD i default).kind (p.getD i default).a (p.getD i default).b && inR (p.getD i default).depth 0 5) := rfl
  cases h1 : numOk t (p.getD i default).kind (p.getD i default).a (p.getD i default).b
  · rw [h1, Bool.false_and] at hno
    simp +contextual -dsimp -implicitDefEqProofs (maxSteps := 5000000) only [go_sem, reduceIte, reduceCtorEq, Nat.reduceEqDiff, Nat.reduceBEq, Nat.reduceAdd, Nat.reduceLeDiff, Nat.reduceMul, Nat.reduceLT, Int.reduceEq, Int.reduceLT, Int.reduceLE, hi, lineOk, hno]
  · simp +contextual -dsimp -implicitDefEqProofs (maxSteps := 5000000) only [go_sem, reduceIte, reduceCtorEq, Nat.reduceEqDiff, Nat.reduceBEq, Nat.reduceAdd, Nat.reduceLeDiff, Nat.reduceMul, Nat.reduceLT, Int.reduceEq, Int.reduceLT, Int.reduceLE, hi]
    refine (c_inRange _ _ _ _).det ?_
    cases h2 : inR (p.getD i default).depth 0 5
    · rw [h1, h2, Bool.true_and] at hno
      simp +contextual -dsimp -implicitDefEqProofs (maxSteps := 5000000) only [go_sem, reduceIte, reduceCtorEq, Nat.reduceEqDiff, Nat.reduceBEq, Nat.reduceAdd, Nat.reduceLeDiff, Nat.reduceMul, Nat.reduceLT, Int.reduceEq, Int.reduceLT, Int.reduceLE, hi, lineOk, hno]
    · rw [h1, h2, Bool.true_and] at hno
      have h2' := inR5 h2
      simp +contextual -dsimp -implicitDefEqProofs (maxSteps := 5000000) only [go_sem, reduceIte, reduceCtorEq, Nat.reduceEqDiff, Nat.reduceBEq, Nat.reduceAdd, Nat.reduceLeDiff, Nat.reduceMul, Nat.reduceLT, Int.reduceEq, Int.reduceLT, Int.reduceLE, hi]
      have fin : relOk p i = true → endOk p i = true → lineOk t p i = stOk p i := fun q1 q2 => by unfold lineOk; rw [hno, q1, q2]; rfl
      have hw : IntKind.i64.wrap ((i : Int) + 1) = ((i + 1 : Nat) : Int) := by
        have := hi
        rw [w64 (by omega) (by omega)]; rfl
      have ee : ∀ b : Bool, opensK (p.getD i default).kind = b → i + 1 = p.length → endOk p i = !b := fun b q1 q2 => by unfold endOk; rw [q1, decide_eq_true q2]; rfl
      have en : ¬ i + 1 = p.length → endOk p i = true := fun q => by unfold endOk; rw [decide_eq_false q]; rfl
      have bad1 : relOk p i = false → lineOk t p i = false := fun q => by unfold lineOk; rw [hno, q]; rfl
      have bad2 : endOk p i = false → lineOk t p i = false := fun q => by unfold lineOk; rw [hno, q]; simp
      by_cases i0 : i = 0
      · subst i0
        refine draw_intro [0, 0, 0, 0, 0, 0, 0, 0, 0, 0, 0, 0, 0, 0, 0, 0, 0, 0, 0, 0, 0, 0, 0, 0, 0, 0, 0, 0, 3, 0, 1, 0, 0, 0, 0, 0, 1, 0, 0, 0, 0, 0, 0, 0, 0, 0, 0, 0, 0, 0, 0, 0, 2, 0, 0] _ (by kernel_rfl) (AHeap.le_refl _) ?_
        have hw1 : IntKind.i64.wrap (0 + 1) = (1 : Int) := rfl
        by_cases d0 : (p.getD 0 default).depth = 0
        · have hrel : relOk p 0 = true := by unfold relOk; rw [if_pos rfl, decide_eq_true d0]
          by_cases el : 0 + 1 = p.length
          · have el' : (p.length : Int) = 1 := by omega
            simp +contextual -dsimp -implicitDefEqProofs (maxSteps := 5000000) only [go_sem, reduceIte, reduceCtorEq, Nat.reduceEqDiff, Nat.reduceBEq, Nat.reduceAdd, Nat.reduceLeDiff, Nat.reduceMul, Nat.reduceLT, Int.reduceEq, Int.reduceLT, Int.reduceLE, hi, d0, hw1, el']
            refine (c_opens _ _).det ?_
            cases ho : opensK (p.getD 0 default).kind
            · have hend := ee false ho el
              simp +contextual -dsimp -implicitDefEqProofs (maxSteps := 5000000) only [go_sem, reduceIte, reduceCtorEq, Nat.reduceEqDiff, Nat.reduceBEq, Nat.reduceAdd, Nat.reduceLeDiff, Nat.reduceMul, Nat.reduceLT, Int.reduceEq, Int.reduceLT, Int.reduceLE, hi]
              rw [fin hrel hend]
              by_cases k7 : (p.getD 0 default).kind = 7
              · have hs : stOk p 0 = tryOkF (kindsP p (tailQ p (p.getD 0 default).depth (endP p 0))) := by
                  unfold stOk; rw [k7]; simp only [show followsK 7 = false from rfl, decide_true, Bool.not_true, Bool.not_false, Bool.false_or, Bool.true_or, Bool.and_true, show ¬ (7 : Int) = 5 by decide, show ¬ (7 : Int) = 6 by decide, decide_false, Bool.or_self]
                rw [hs]
                simp +contextual -dsimp -implicitDefEqProofs (maxSteps := 5000000) only [go_sem, reduceIte, reduceCtorEq, Nat.reduceEqDiff, Nat.reduceBEq, Nat.reduceAdd, Nat.reduceLeDiff, Nat.reduceMul, Nat.reduceLT, Int.reduceEq, Int.reduceLT, Int.reduceLE, hi, k7]
                refine (c_validChain p cl' 0 _ hi hp).det ?_
                cases hc : tryOkF (kindsP p (tailQ p (p.getD 0 default).depth (endP p 0)))
                · simp +contextual -dsimp -implicitDefEqProofs (maxSteps := 5000000) only [go_sem, reduceIte, reduceCtorEq, Nat.reduceEqDiff, Nat.reduceBEq, Nat.reduceAdd, Nat.reduceLeDiff, Nat.reduceMul, Nat.reduceLT, Int.reduceEq, Int.reduceLT, Int.reduceLE, hi, k7]
                · simp +contextual -dsimp -implicitDefEqProofs (maxSteps := 5000000) only [go_sem, reduceIte, reduceCtorEq, Nat.reduceEqDiff, Nat.reduceBEq, Nat.reduceAdd, Nat.reduceLeDiff, Nat.reduceMul, Nat.reduceLT, Int.reduceEq, Int.reduceLT, Int.reduceLE, hi, k7]
                  refine (c_follows _ _).det ?_
                  rw [show followsK 7 = false from rfl]
                  simp +contextual -dsimp -implicitDefEqProofs (maxSteps := 5000000) only [go_sem, reduceIte, reduceCtorEq, Nat.reduceEqDiff, Nat.reduceBEq, Nat.reduceAdd, Nat.reduceLeDiff, Nat.reduceMul, Nat.reduceLT, Int.reduceEq, Int.reduceLT, Int.reduceLE]
              · by_cases k5 : (p.getD 0 default).kind = 5
                · have hs : stOk p 0 = inLoopR (p.getD 0 default).depth (upto p 0) := by
                    unfold stOk; rw [k5]; simp only [show followsK 5 = false from rfl, decide_true, Bool.not_true, Bool.not_false, Bool.false_or, Bool.true_or, Bool.or_true, Bool.and_true, Bool.true_and, show ¬ (5 : Int) = 7 by decide, show ¬ (5 : Int) = 6 by decide, decide_false]
                  rw [hs]
                  simp +contextual -dsimp -implicitDefEqProofs (maxSteps := 5000000) only [go_sem, reduceIte, reduceCtorEq, Nat.reduceEqDiff, Nat.reduceBEq, Nat.reduceAdd, Nat.reduceLeDiff, Nat.reduceMul, Nat.reduceLT, Int.reduceEq, Int.reduceLT, Int.reduceLE, hi, k5]
                  refine (c_inLoop p cl' 0 _ hi).det ?_
                  cases hc : inLoopR (p.getD 0 default).depth (upto p 0)
                  · simp +contextual -dsimp -implicitDefEqProofs (maxSteps := 5000000) only [go_sem, reduceIte, reduceCtorEq, Nat.reduceEqDiff, Nat.reduceBEq, Nat.reduceAdd, Nat.reduceLeDiff, Nat.reduceMul, Nat.reduceLT, Int.reduceEq, Int.reduceLT, Int.reduceLE, hi, k5]
                  · simp +contextual -dsimp -implicitDefEqProofs (maxSteps := 5000000) only [go_sem, reduceIte, reduceCtorEq, Nat.reduceEqDiff, Nat.reduceBEq, Nat.reduceAdd, Nat.reduceLeDiff, Nat.reduceMul, Nat.reduceLT, Int.reduceEq, Int.reduceLT, Int.reduceLE, hi, k5]
                    refine (c_follows _ _).det ?_
                    rw [show followsK 5 = false from rfl]
                    simp +contextual -dsimp -implicitDefEqProofs (maxSteps := 5000000) only [go_sem, reduceIte, reduceCtorEq, Nat.reduceEqDiff, Nat.reduceBEq, Nat.reduceAdd, Nat.reduceLeDiff, Nat.reduceMul, Nat.reduceLT, Int.reduceEq, Int.reduceLT, Int.reduceLE]
                · by_cases k6 : (p.getD 0 default).kind = 6
                  · have hs : stOk p 0 = inLoopR (p.getD 0 default).depth (upto p 0) := by
                      unfold stOk; rw [k6]; simp only [show followsK 6 = false from rfl, decide_true, Bool.not_true, Bool.not_false, Bool.false_or, Bool.true_or, Bool.or_true, Bool.and_true, Bool.true_and, show ¬ (6 : Int) = 7 by decide, show ¬ (6 : Int) = 5 by decide, decide_false]
                    rw [hs]
                    simp +contextual -dsimp -implicitDefEqProofs (maxSteps := 5000000) only [go_sem, reduceIte, reduceCtorEq, Nat.reduceEqDiff, Nat.reduceBEq, Nat.reduceAdd, Nat.reduceLeDiff, Nat.reduceMul, Nat.reduceLT, Int.reduceEq, Int.reduceLT, Int.reduceLE, hi, k6]
                    refine (c_inLoop p cl' 0 _ hi).det ?_
                    cases hc : inLoopR (p.getD 0 default).depth (upto p 0)
                    · simp +contextual -dsimp -implicitDefEqProofs (maxSteps := 5000000) only [go_sem, reduceIte, reduceCtorEq, Nat.reduceEqDiff, Nat.reduceBEq, Nat.reduceAdd, Nat.reduceLeDiff, Nat.reduceMul, Nat.reduceLT, Int.reduceEq, Int.reduceLT, Int.reduceLE, hi, k6]
                    · simp +contextual -dsimp -implicitDefEqProofs (maxSteps := 5000000) only [go_sem, reduceIte, reduceCtorEq, Nat.reduceEqDiff, Nat.reduceBEq, Nat.reduceAdd, Nat.reduceLeDiff, Nat.reduceMul, Nat.reduceLT, Int.reduceEq, Int.reduceLT, Int.reduceLE, hi, k6]
                      refine (c_follows _ _).det ?_
                      rw [show followsK 6 = false from rfl]
                      simp +contextual -dsimp -implicitDefEqProofs (maxSteps := 5000000) only [go_sem, reduceIte, reduceCtorEq, Nat.reduceEqDiff, Nat.reduceBEq, Nat.reduceAdd, Nat.reduceLeDiff, Nat.reduceMul, Nat.reduceLT, Int.reduceEq, Int.reduceLT, Int.reduceLE]
                  · have hs : stOk p 0 = (!followsK (p.getD 0 default).kind || headOkR (headR (p.getD 0 default).depth (upto p 0))) := by
                      unfold stOk; simp only [k7, k5, k6, decide_false, Bool.not_false, Bool.true_or, Bool.true_and, Bool.or_self]
                    rw [hs]
                    simp +contextual -dsimp -implicitDefEqProofs (maxSteps := 5000000) only [go_sem, reduceIte, reduceCtorEq, Nat.reduceEqDiff, Nat.reduceBEq, Nat.reduceAdd, Nat.reduceLeDiff, Nat.reduceMul, Nat.reduceLT, Int.reduceEq, Int.reduceLT, Int.reduceLE, hi, k5, k6, k7]
                    refine (c_follows _ _).det ?_
                    cases hf : followsK (p.getD 0 default).kind
                    · simp +contextual -dsimp -implicitDefEqProofs (maxSteps := 5000000) only [go_sem, reduceIte, reduceCtorEq, Nat.reduceEqDiff, Nat.reduceBEq, Nat.reduceAdd, Nat.reduceLeDiff, Nat.reduceMul, Nat.reduceLT, Int.reduceEq, Int.reduceLT, Int.reduceLE]
                    · simp +contextual -dsimp -implicitDefEqProofs (maxSteps := 5000000) only [go_sem, reduceIte, reduceCtorEq, Nat.reduceEqDiff, Nat.reduceBEq, Nat.reduceAdd, Nat.reduceLeDiff, Nat.reduceMul, Nat.reduceLT, Int.reduceEq, Int.reduceLT, Int.reduceLE, hi]
                      refine (c_headOf p cl' 0 _ hi).mono ?_
                      rintro _ _ ⟨v, rfl, rfl, hv⟩
                      rcases hv with ⟨rfl, hv⟩ | ⟨k, rfl, hk, hv⟩
                      · rw [hv]
                        have z : ¬ (0 : Int) ≤ -1 := by omega
                        simp +contextual -dsimp -implicitDefEqProofs (maxSteps := 5000000) only [go_sem, reduceIte, reduceCtorEq, Nat.reduceEqDiff, Nat.reduceBEq, Nat.reduceAdd, Nat.reduceLeDiff, Nat.reduceMul, Nat.reduceLT, Int.reduceEq, Int.reduceLT, Int.reduceLE, z, headOkR]
                      · rw [hv]
                        simp +contextual -dsimp -implicitDefEqProofs (maxSteps := 5000000) only [go_sem, reduceIte, reduceCtorEq, Nat.reduceEqDiff, Nat.reduceBEq, Nat.reduceAdd, Nat.reduceLeDiff, Nat.reduceMul, Nat.reduceLT, Int.reduceEq, Int.reduceLT, Int.reduceLE, hk, headOkR]
                        by_cases q7 : (p.getD k default).kind = 7
                        · simp +contextual -dsimp -implicitDefEqProofs (maxSteps := 5000000) only [go_sem, reduceIte, reduceCtorEq, Nat.reduceEqDiff, Nat.reduceBEq, Nat.reduceAdd, Nat.reduceLeDiff, Nat.reduceMul, Nat.reduceLT, Int.reduceEq, Int.reduceLT, Int.reduceLE, q7]
                        · simp +contextual -dsimp -implicitDefEqProofs (maxSteps := 5000000) only [go_sem, reduceIte, reduceCtorEq, Nat.reduceEqDiff, Nat.reduceBEq, Nat.reduceAdd, Nat.reduceLeDiff, Nat.reduceMul, Nat.reduceLT, Int.reduceEq, Int.reduceLT, Int.reduceLE, q7, hk]
                          refine (c_follows _ _).det ?_
                          simp +contextual -dsimp -implicitDefEqProofs (maxSteps := 5000000) only [go_sem, reduceIte, reduceCtorEq, Nat.reduceEqDiff, Nat.reduceBEq, Nat.reduceAdd, Nat.reduceLeDiff, Nat.reduceMul, Nat.reduceLT, Int.reduceEq, Int.reduceLT, Int.reduceLE, q7]
                          simp only [headOkR, q7, decide_false, Bool.false_or]
            · rw [bad2 (ee true ho el)]
              simp +contextual -dsimp -implicitDefEqProofs (maxSteps := 5000000) only [go_sem, reduceIte, reduceCtorEq, Nat.reduceEqDiff, Nat.reduceBEq, Nat.reduceAdd, Nat.reduceLeDiff, Nat.reduceMul, Nat.reduceLT, Int.reduceEq, Int.reduceLT, Int.reduceLE, hi]
          · have el' : ¬ (1 : Int) = (p.length : Int) := by omega
            have hend := en el
            simp +contextual -dsimp -implicitDefEqProofs (maxSteps := 5000000) only [go_sem, reduceIte, reduceCtorEq, Nat.reduceEqDiff, Nat.reduceBEq, Nat.reduceAdd, Nat.reduceLeDiff, Nat.reduceMul, Nat.reduceLT, Int.reduceEq, Int.reduceLT, Int.reduceLE, hi, d0, hw1, el']
            rw [fin hrel hend]
            by_cases k7 : (p.getD 0 default).kind = 7
            · have hs : stOk p 0 = tryOkF (kindsP p (tailQ p (p.getD 0 default).depth (endP p 0))) := by
                unfold stOk; rw [k7]; simp only [show followsK 7 = false from rfl, decide_true, Bool.not_true, Bool.not_false, Bool.false_or, Bool.true_or, Bool.and_true, show ¬ (7 : Int) = 5 by decide, show ¬ (7 : Int) = 6 by decide, decide_false, Bool.or_self]
              rw [hs]
              simp +contextual -dsimp -implicitDefEqProofs (maxSteps := 5000000) only [go_sem, reduceIte, reduceCtorEq, Nat.reduceEqDiff, Nat.reduceBEq, Nat.reduceAdd, Nat.reduceLeDiff, Nat.reduceMul, Nat.reduceLT, Int.reduceEq, Int.reduceLT, Int.reduceLE, hi, k7]
              refine (c_validChain p cl' 0 _ hi hp).det ?_
              cases hc : tryOkF (kindsP p (tailQ p (p.getD 0 default).depth (endP p 0)))
              · simp +contextual -dsimp -implicitDefEqProofs (maxSteps := 5000000) only [go_sem, reduceIte, reduceCtorEq, Nat.reduceEqDiff, Nat.reduceBEq, Nat.reduceAdd, Nat.reduceLeDiff, Nat.reduceMul, Nat.reduceLT, Int.reduceEq, Int.reduceLT, Int.reduceLE, hi, k7]
              · simp +contextual -dsimp -implicitDefEqProofs (maxSteps := 5000000) only [go_sem, reduceIte, reduceCtorEq, Nat.reduceEqDiff, Nat.reduceBEq, Nat.reduceAdd, Nat.reduceLeDiff, Nat.reduceMul, Nat.reduceLT, Int.reduceEq, Int.reduceLT, Int.reduceLE, hi, k7]
                refine (c_follows _ _).det ?_
                rw [show followsK 7 = false from rfl]
                simp +contextual -dsimp -implicitDefEqProofs (maxSteps := 5000000) only [go_sem, reduceIte, reduceCtorEq, Nat.reduceEqDiff, Nat.reduceBEq, Nat.reduceAdd, Nat.reduceLeDiff, Nat.reduceMul, Nat.reduceLT, Int.reduceEq, Int.reduceLT, Int.reduceLE]
            · by_cases k5 : (p.getD 0 default).kind = 5
              · have hs : stOk p 0 = inLoopR (p.getD 0 default).depth (upto p 0) := by
                  unfold stOk; rw [k5]; simp only [show followsK 5 = false from rfl, decide_true, Bool.not_true, Bool.not_false, Bool.false_or, Bool.true_or, Bool.or_true, Bool.and_true, Bool.true_and, show ¬ (5 : Int) = 7 by decide, show ¬ (5 : Int) = 6 by decide, decide_false]
                rw [hs]
                simp +contextual -dsimp -implicitDefEqProofs (maxSteps := 5000000) only [go_sem, reduceIte, reduceCtorEq, Nat.reduceEqDiff, Nat.reduceBEq, Nat.reduceAdd, Nat.reduceLeDiff, Nat.reduceMul, Nat.reduceLT, Int.reduceEq, Int.reduceLT, Int.reduceLE, hi, k5]
                refine (c_inLoop p cl' 0 _ hi).det ?_
                cases hc : inLoopR (p.getD 0 default).depth (upto p 0)
                · simp +contextual -dsimp -implicitDefEqProofs (maxSteps := 5000000) only [go_sem, reduceIte, reduceCtorEq, Nat.reduceEqDiff, Nat.reduceBEq, Nat.reduceAdd, Nat.reduceLeDiff, Nat.reduceMul, Nat.reduceLT, Int.reduceEq, Int.reduceLT, Int.reduceLE, hi, k5]
                · simp +contextual -dsimp -implicitDefEqProofs (maxSteps := 5000000) only [go_sem, reduceIte, reduceCtorEq, Nat.reduceEqDiff, Nat.reduceBEq, Nat.reduceAdd, Nat.reduceLeDiff, Nat.reduceMul, Nat.reduceLT, Int.reduceEq, Int.reduceLT, Int.reduceLE, hi, k5]
                  refine (c_follows _ _).det ?_
                  rw [show followsK 5 = false from rfl]
                  simp +contextual -dsimp -implicitDefEqProofs (maxSteps := 5000000) only [go_sem, reduceIte, reduceCtorEq, Nat.reduceEqDiff, Nat.reduceBEq, Nat.reduceAdd, Nat.reduceLeDiff, Nat.reduceMul, Nat.reduceLT, Int.reduceEq, Int.reduceLT, Int.reduceLE]
              · by_cases k6 : (p.getD 0 default).kind = 6
                · have hs : stOk p 0 = inLoopR (p.getD 0 default).depth (upto p 0) := by
                    unfold stOk; rw [k6]; simp only [show followsK 6 = false from rfl, decide_true, Bool.not_true, Bool.not_false, Bool.false_or, Bool.true_or, Bool.or_true, Bool.and_true, Bool.true_and, show ¬ (6 : Int) = 7 by decide, show ¬ (6 : Int) = 5 by decide, decide_false]
                  rw [hs]
                  simp +contextual -dsimp -implicitDefEqProofs (maxSteps := 5000000) only [go_sem, reduceIte, reduceCtorEq, Nat.reduceEqDiff, Nat.reduceBEq, Nat.reduceAdd, Nat.reduceLeDiff, Nat.reduceMul, Nat.reduceLT, Int.reduceEq, Int.reduceLT, Int.reduceLE, hi, k6]
                  refine (c_inLoop p cl' 0 _ hi).det ?_
                  cases hc : inLoopR (p.getD 0 default).depth (upto p 0)
                  · simp +contextual -dsimp -implicitDefEqProofs (maxSteps := 5000000) only [go_sem, reduceIte, reduceCtorEq, Nat.reduceEqDiff, Nat.reduceBEq, Nat.reduceAdd, Nat.reduceLeDiff, Nat.reduceMul, Nat.reduceLT, Int.reduceEq, Int.reduceLT, Int.reduceLE, hi, k6]
                  · simp +contextual -dsimp -implicitDefEqProofs (maxSteps := 5000000) only [go_sem, reduceIte, reduceCtorEq, Nat.reduceEqDiff, Nat.reduceBEq, Nat.reduceAdd, Nat.reduceLeDiff, Nat.reduceMul, Nat.reduceLT, Int.reduceEq, Int.reduceLT, Int.reduceLE, hi, k6]
                    refine (c_follows _ _).det ?_
                    rw [show followsK 6 = false from rfl]
                    simp +contextual -dsimp -implicitDefEqProofs (maxSteps := 5000000) only [go_sem, reduceIte, reduceCtorEq, Nat.reduceEqDiff, Nat.reduceBEq, Nat.reduceAdd, Nat.reduceLeDiff, Nat.reduceMul, Nat.reduceLT, Int.reduceEq, Int.reduceLT, Int.reduceLE]
                · have hs : stOk p 0 = (!followsK (p.getD 0 default).kind || headOkR (headR (p.getD 0 default).depth (upto p 0))) := by
                    unfold stOk; simp only [k7, k5, k6, decide_false, Bool.not_false, Bool.true_or, Bool.true_and, Bool.or_self]
                  rw [hs]
                  simp +contextual -dsimp -implicitDefEqProofs (maxSteps := 5000000) only [go_sem, reduceIte, reduceCtorEq, Nat.reduceEqDiff, Nat.reduceBEq, Nat.reduceAdd, Nat.reduceLeDiff, Nat.reduceMul, Nat.reduceLT, Int.reduceEq, Int.reduceLT, Int.reduceLE, hi, k5, k6, k7]
                  refine (c_follows _ _).det ?_
                  cases hf : followsK (p.getD 0 default).kind
                  · simp +contextual -dsimp -implicitDefEqProofs (maxSteps := 5000000) only [go_sem, reduceIte, reduceCtorEq, Nat.reduceEqDiff, Nat.reduceBEq, Nat.reduceAdd, Nat.reduceLeDiff, Nat.reduceMul, Nat.reduceLT, Int.reduceEq, Int.reduceLT, Int.reduceLE]
                  · simp +contextual -dsimp -implicitDefEqProofs (maxSteps := 5000000) only [go_sem, reduceIte, reduceCtorEq, Nat.reduceEqDiff, Nat.reduceBEq, Nat.reduceAdd, Nat.reduceLeDiff, Nat.reduceMul, Nat.reduceLT, Int.reduceEq, Int.reduceLT, Int.reduceLE, hi]
                    refine (c_headOf p cl' 0 _ hi).mono ?_
                    rintro _ _ ⟨v, rfl, rfl, hv⟩
                    rcases hv with ⟨rfl, hv⟩ | ⟨k, rfl, hk, hv⟩
                    · rw [hv]
                      have z : ¬ (0 : Int) ≤ -1 := by omega
                      simp +contextual -dsimp -implicitDefEqProofs (maxSteps := 5000000) only [go_sem, reduceIte, reduceCtorEq, Nat.reduceEqDiff, Nat.reduceBEq, Nat.reduceAdd, Nat.reduceLeDiff, Nat.reduceMul, Nat.reduceLT, Int.reduceEq, Int.reduceLT, Int.reduceLE, z, headOkR]
                    · rw [hv]
                      simp +contextual -dsimp -implicitDefEqProofs (maxSteps := 5000000) only [go_sem, reduceIte, reduceCtorEq, Nat.reduceEqDiff, Nat.reduceBEq, Nat.reduceAdd, Nat.reduceLeDiff, Nat.reduceMul, Nat.reduceLT, Int.reduceEq, Int.reduceLT, Int.reduceLE, hk, headOkR]
                      by_cases q7 : (p.getD k default).kind = 7
                      · simp +contextual -dsimp -implicitDefEqProofs (maxSteps := 5000000) only [go_sem, reduceIte, reduceCtorEq, Nat.reduceEqDiff, Nat.reduceBEq, Nat.reduceAdd, Nat.reduceLeDiff, Nat.reduceMul, Nat.reduceLT, Int.reduceEq, Int.reduceLT, Int.reduceLE, q7]
                      · simp +contextual -dsimp -implicitDefEqProofs (maxSteps := 5000000) only [go_sem, reduceIte, reduceCtorEq, Nat.reduceEqDiff, Nat.reduceBEq, Nat.reduceAdd, Nat.reduceLeDiff, Nat.reduceMul, Nat.reduceLT, Int.reduceEq, Int.reduceLT, Int.reduceLE, q7, hk]
                        refine (c_follows _ _).det ?_
                        simp +contextual -dsimp -implicitDefEqProofs (maxSteps := 5000000) only [go_sem, reduceIte, reduceCtorEq, Nat.reduceEqDiff, Nat.reduceBEq, Nat.reduceAdd, Nat.reduceLeDiff, Nat.reduceMul, Nat.reduceLT, Int.reduceEq, Int.reduceLT, Int.reduceLE, q7]
                        simp only [headOkR, q7, decide_false, Bool.false_or]
        · simp +contextual -dsimp -implicitDefEqProofs (maxSteps := 5000000) only [go_sem, reduceIte, reduceCtorEq, Nat.reduceEqDiff, Nat.reduceBEq, Nat.reduceAdd, Nat.reduceLeDiff, Nat.reduceMul, Nat.reduceLT, Int.reduceEq, Int.reduceLT, Int.reduceLE, hi, d0, bad1 (by unfold relOk; rw [if_pos rfl, decide_eq_false d0])]
      · refine draw_intro [0, 0, 0, 0, 0, 0, 0, 0, 0, 0, 0, 0, 0, 0, 0, 0, 0, 0, 0, 0, 0, 0, 0, 0, 0, 0, 0, 0, 3, 0, 1, 0, 0, 0, 0, 0, 1, 0, 0, 0, 0, 0, 0, 0, 0, 0, 0, 0, 0, 0, 0, 0, 2, 0, 0] _ (by kernel_rfl) (AHeap.le_refl _) ?_
        have hpv := inR5 (hprev i0)
        have i0' : ¬ (i : Int) = 0 := by omega
        have i1 : (0 : Int) < (i : Int) := by omega
        have hwi : IntKind.i64.wrap ((i : Int) - 1) = ((i - 1 : Nat) : Int) := by rw [w64 (by omega) (by omega)]; omega
        have hi1 : i - 1 < p.length := by omega
        have hi2 : i - 1 < i + 1 := by omega
        have hwd : IntKind.i64.wrap ((p.getD (i - 1) default).depth + 1) = (p.getD (i - 1) default).depth + 1 := w64 (by omega) (by omega)
        have er : relOk p i = stepOk (p.getD (i - 1) default) (p.getD i default) := by unfold relOk; rw [if_neg i0]
        by_cases g : (p.getD (i - 1) default).depth + 1 < (p.getD i default).depth
        · have hb : relOk p i = false := by
            rw [er]; unfold stepOk; split
            · exact decide_eq_false (by omega)
            · exact decide_eq_false (by omega)
          simp +contextual -dsimp -implicitDefEqProofs (maxSteps := 5000000) only [go_sem, reduceIte, reduceCtorEq, Nat.reduceEqDiff, Nat.reduceBEq, Nat.reduceAdd, Nat.reduceLeDiff, Nat.reduceMul, Nat.reduceLT, Int.reduceEq, Int.reduceLT, Int.reduceLE, hi, i0', i1, hwi, hi1, hwd, g, bad1 hb]
        · simp +contextual -dsimp -implicitDefEqProofs (maxSteps := 5000000) only [go_sem, reduceIte, reduceCtorEq, Nat.reduceEqDiff, Nat.reduceBEq, Nat.reduceAdd, Nat.reduceLeDiff, Nat.reduceMul, Nat.reduceLT, Int.reduceEq, Int.reduceLT, Int.reduceLE, hi, i0', i1, hwi, hi1, hwd, g]
          refine (c_opens _ _).det ?_
          refine ⟨AHeap.le_refl _, ?_⟩
          by_cases e : (p.getD i default).depth = (p.getD (i - 1) default).depth + 1
          · cases ho : opensK (p.getD (i - 1) default).kind
            · have hb : relOk p i = false := by
                rw [er]; unfold stepOk; rw [ho, if_neg (by decide)]; exact decide_eq_false (by omega)
              simp +contextual -dsimp -implicitDefEqProofs (maxSteps := 5000000) only [go_sem, reduceIte, reduceCtorEq, Nat.reduceEqDiff, Nat.reduceBEq, Nat.reduceAdd, Nat.reduceLeDiff, Nat.reduceMul, Nat.reduceLT, Int.reduceEq, Int.reduceLT, Int.reduceLE, hi, i0', i1, hwi, hi1, hwd, g, e, bad1 hb]
            · have hrel : relOk p i = true := by
                rw [er]; unfold stepOk; rw [ho, if_pos rfl]; exact decide_eq_true e
              by_cases el : i + 1 = p.length
              · have el' : (p.length : Int) = ((i + 1 : Nat) : Int) := by omega
                simp +contextual -dsimp -implicitDefEqProofs (maxSteps := 5000000) only [go_sem, reduceIte, reduceCtorEq, Nat.reduceEqDiff, Nat.reduceBEq, Nat.reduceAdd, Nat.reduceLeDiff, Nat.reduceMul, Nat.reduceLT, Int.reduceEq, Int.reduceLT, Int.reduceLE, hi, i0', i1, hwi, hi1, hwd, g, e, hw, el', hi2]
                refine (c_opens _ _).det ?_
                cases ho : opensK (p.getD i default).kind
                · have hend := ee false ho el
                  simp +contextual -dsimp -implicitDefEqProofs (maxSteps := 5000000) only [go_sem, reduceIte, reduceCtorEq, Nat.reduceEqDiff, Nat.reduceBEq, Nat.reduceAdd, Nat.reduceLeDiff, Nat.reduceMul, Nat.reduceLT, Int.reduceEq, Int.reduceLT, Int.reduceLE, hi]
                  rw [fin hrel hend]
                  by_cases k7 : (p.getD i default).kind = 7
                  · have hs : stOk p i = tryOkF (kindsP p (tailQ p (p.getD i default).depth (endP p i))) := by
                      unfold stOk; rw [k7]; simp only [show followsK 7 = false from rfl, decide_true, Bool.not_true, Bool.not_false, Bool.false_or, Bool.true_or, Bool.and_true, show ¬ (7 : Int) = 5 by decide, show ¬ (7 : Int) = 6 by decide, decide_false, Bool.or_self]
                    rw [hs]
                    simp +contextual -dsimp -implicitDefEqProofs (maxSteps := 5000000) only [go_sem, reduceIte, reduceCtorEq, Nat.reduceEqDiff, Nat.reduceBEq, Nat.reduceAdd, Nat.reduceLeDiff, Nat.reduceMul, Nat.reduceLT, Int.reduceEq, Int.reduceLT, Int.reduceLE, hi, k7]
                    refine (c_validChain p cl' i _ hi hp).det ?_
                    cases hc : tryOkF (kindsP p (tailQ p (p.getD i default).depth (endP p i)))
                    · simp +contextual -dsimp -implicitDefEqProofs (maxSteps := 5000000) only [go_sem, reduceIte, reduceCtorEq, Nat.reduceEqDiff, Nat.reduceBEq, Nat.reduceAdd, Nat.reduceLeDiff, Nat.reduceMul, Nat.reduceLT, Int.reduceEq, Int.reduceLT, Int.reduceLE, hi, k7]
                    · simp +contextual -dsimp -implicitDefEqProofs (maxSteps := 5000000) only [go_sem, reduceIte, reduceCtorEq, Nat.reduceEqDiff, Nat.reduceBEq, Nat.reduceAdd, Nat.reduceLeDiff, Nat.reduceMul, Nat.reduceLT, Int.reduceEq, Int.reduceLT, Int.reduceLE, hi, k7]
                      refine (c_follows _ _).det ?_
                      rw [show followsK 7 = false from rfl]
                      simp +contextual -dsimp -implicitDefEqProofs (maxSteps := 5000000) only [go_sem, reduceIte, reduceCtorEq, Nat.reduceEqDiff, Nat.reduceBEq, Nat.reduceAdd, Nat.reduceLeDiff, Nat.reduceMul, Nat.reduceLT, Int.reduceEq, Int.reduceLT, Int.reduceLE]
                  · by_cases k5 : (p.getD i default).kind = 5
                    · have hs : stOk p i = inLoopR (p.getD i default).depth (upto p i) := by
                        unfold stOk; rw [k5]; simp only [show followsK 5 = false from rfl, decide_true, Bool.not_true, Bool.not_false, Bool.false_or, Bool.true_or, Bool.or_true, Bool.and_true, Bool.true_and, show ¬ (5 : Int) = 7 by decide, show ¬ (5 : Int) = 6 by decide, decide_false]
                      rw [hs]
                      simp +contextual -dsimp -implicitDefEqProofs (maxSteps := 5000000) only [go_sem, reduceIte, reduceCtorEq, Nat.reduceEqDiff, Nat.reduceBEq, Nat.reduceAdd, Nat.reduceLeDiff, Nat.reduceMul, Nat.reduceLT, Int.reduceEq, Int.reduceLT, Int.reduceLE, hi, k5]
                      refine (c_inLoop p cl' i _ hi).det ?_
                      cases hc : inLoopR (p.getD i default).depth (upto p i)
                      · simp +contextual -dsimp -implicitDefEqProofs (maxSteps := 5000000) only [go_sem, reduceIte, reduceCtorEq, Nat.reduceEqDiff, Nat.reduceBEq, Nat.reduceAdd, Nat.reduceLeDiff, Nat.reduceMul, Nat.reduceLT, Int.reduceEq, Int.reduceLT, Int.reduceLE, hi, k5]
                      · simp +contextual -dsimp -implicitDefEqProofs (maxSteps := 5000000) only [go_sem, reduceIte, reduceCtorEq, Nat.reduceEqDiff, Nat.reduceBEq, Nat.reduceAdd, Nat.reduceLeDiff, Nat.reduceMul, Nat.reduceLT, Int.reduceEq, Int.reduceLT, Int.reduceLE, hi, k5]
                        refine (c_follows _ _).det ?_
                        rw [show followsK 5 = false from rfl]
                        simp +contextual -dsimp -implicitDefEqProofs (maxSteps := 5000000) only [go_sem, reduceIte, reduceCtorEq, Nat.reduceEqDiff, Nat.reduceBEq, Nat.reduceAdd, Nat.reduceLeDiff, Nat.reduceMul, Nat.reduceLT, Int.reduceEq, Int.reduceLT, Int.reduceLE]
                    · by_cases k6 : (p.getD i default).kind = 6
                      · have hs : stOk p i = inLoopR (p.getD i default).depth (upto p i) := by
                          unfold stOk; rw [k6]; simp only [show followsK 6 = false from rfl, decide_true, Bool.not_true, Bool.not_false, Bool.false_or, Bool.true_or, Bool.or_true, Bool.and_true, Bool.true_and, show ¬ (6 : Int) = 7 by decide, show ¬ (6 : Int) = 5 by decide, decide_false]
                        rw [hs]
                        simp +contextual -dsimp -implicitDefEqProofs (maxSteps := 5000000) only [go_sem, reduceIte, reduceCtorEq, Nat.reduceEqDiff, Nat.reduceBEq, Nat.reduceAdd, Nat.reduceLeDiff, Nat.reduceMul, Nat.reduceLT, Int.reduceEq, Int.reduceLT, Int.reduceLE, hi, k6]
                        refine (c_inLoop p cl' i _ hi).det ?_
                        cases hc : inLoopR (p.getD i default).depth (upto p i)
                        · simp +contextual -dsimp -implicitDefEqProofs (maxSteps := 5000000) only [go_sem, reduceIte, reduceCtorEq, Nat.reduceEqDiff, Nat.reduceBEq, Nat.reduceAdd, Nat.reduceLeDiff, Nat.reduceMul, Nat.reduceLT, Int.reduceEq, Int.reduceLT, Int.reduceLE, hi, k6]
                        · simp +contextual -dsimp -implicitDefEqProofs (maxSteps := 5000000) only [go_sem, reduceIte, reduceCtorEq, Nat.reduceEqDiff, Nat.reduceBEq, Nat.reduceAdd, Nat.reduceLeDiff, Nat.reduceMul, Nat.reduceLT, Int.reduceEq, Int.reduceLT, Int.reduceLE, hi, k6]
                          refine (c_follows _ _).det ?_
                          rw [show followsK 6 = false from rfl]
                          simp +contextual -dsimp -implicitDefEqProofs (maxSteps := 5000000) only [go_sem, reduceIte, reduceCtorEq, Nat.reduceEqDiff, Nat.reduceBEq, Nat.reduceAdd, Nat.reduceLeDiff, Nat.reduceMul, Nat.reduceLT, Int.reduceEq, Int.reduceLT, Int.reduceLE]
                      · have hs : stOk p i = (!followsK (p.getD i default).kind || headOkR (headR (p.getD i default).depth (upto p i))) := by
                          unfold stOk; simp only [k7, k5, k6, decide_false, Bool.not_false, Bool.true_or, Bool.true_and, Bool.or_self]
                        rw [hs]
                        simp +contextual -dsimp -implicitDefEqProofs (maxSteps := 5000000) only [go_sem, reduceIte, reduceCtorEq, Nat.reduceEqDiff, Nat.reduceBEq, Nat.reduceAdd, Nat.reduceLeDiff, Nat.reduceMul, Nat.reduceLT, Int.reduceEq, Int.reduceLT, Int.reduceLE, hi, k5, k6, k7]
                        refine (c_follows _ _).det ?_
                        cases hf : followsK (p.getD i default).kind
                        · simp +contextual -dsimp -implicitDefEqProofs (maxSteps := 5000000) only [go_sem, reduceIte, reduceCtorEq, Nat.reduceEqDiff, Nat.reduceBEq, Nat.reduceAdd, Nat.reduceLeDiff, Nat.reduceMul, Nat.reduceLT, Int.reduceEq, Int.reduceLT, Int.reduceLE]
                        · simp +contextual -dsimp -implicitDefEqProofs (maxSteps := 5000000) only [go_sem, reduceIte, reduceCtorEq, Nat.reduceEqDiff, Nat.reduceBEq, Nat.reduceAdd, Nat.reduceLeDiff, Nat.reduceMul, Nat.reduceLT, Int.reduceEq, Int.reduceLT, Int.reduceLE, hi]
                          refine (c_headOf p cl' i _ hi).mono ?_
                          rintro _ _ ⟨v, rfl, rfl, hv⟩
                          rcases hv with ⟨rfl, hv⟩ | ⟨k, rfl, hk, hv⟩
                          · rw [hv]
                            have z : ¬ (0 : Int) ≤ -1 := by omega
                            simp +contextual -dsimp -implicitDefEqProofs (maxSteps := 5000000) only [go_sem, reduceIte, reduceCtorEq, Nat.reduceEqDiff, Nat.reduceBEq, Nat.reduceAdd, Nat.reduceLeDiff, Nat.reduceMul, Nat.reduceLT, Int.reduceEq, Int.reduceLT, Int.reduceLE, z, headOkR]
                          · rw [hv]
                            simp +contextual -dsimp -implicitDefEqProofs (maxSteps := 5000000) only [go_sem, reduceIte, reduceCtorEq, Nat.reduceEqDiff, Nat.reduceBEq, Nat.reduceAdd, Nat.reduceLeDiff, Nat.reduceMul, Nat.reduceLT, Int.reduceEq, Int.reduceLT, Int.reduceLE, hk, headOkR]
                            by_cases q7 : (p.getD k default).kind = 7
                            · simp +contextual -dsimp -implicitDefEqProofs (maxSteps := 5000000) only [go_sem, reduceIte, reduceCtorEq, Nat.reduceEqDiff, Nat.reduceBEq, Nat.reduceAdd, Nat.reduceLeDiff, Nat.reduceMul, Nat.reduceLT, Int.reduceEq, Int.reduceLT, Int.reduceLE, q7]
                            · simp +contextual -dsimp -implicitDefEqProofs (maxSteps := 5000000) only [go_sem, reduceIte, reduceCtorEq, Nat.reduceEqDiff, Nat.reduceBEq, Nat.reduceAdd, Nat.reduceLeDiff, Nat.reduceMul, Nat.reduceLT, Int.reduceEq, Int.reduceLT, Int.reduceLE, q7, hk]
                              refine (c_follows _ _).det ?_
                              simp +contextual -dsimp -implicitDefEqProofs (maxSteps := 5000000) only [go_sem, reduceIte, reduceCtorEq, Nat.reduceEqDiff, Nat.reduceBEq, Nat.reduceAdd, Nat.reduceLeDiff, Nat.reduceMul, Nat.reduceLT, Int.reduceEq, Int.reduceLT, Int.reduceLE, q7]
                              simp only [headOkR, q7, decide_false, Bool.false_or]
                · rw [bad2 (ee true ho el)]
                  simp +contextual -dsimp -implicitDefEqProofs (maxSteps := 5000000) only [go_sem, reduceIte, reduceCtorEq, Nat.reduceEqDiff, Nat.reduceBEq, Nat.reduceAdd, Nat.reduceLeDiff, Nat.reduceMul, Nat.reduceLT, Int.reduceEq, Int.reduceLT, Int.reduceLE, hi]
              · have el' : ¬ ((i + 1 : Nat) : Int) = (p.length : Int) := by omega
                have hend := en el
                simp +contextual -dsimp -implicitDefEqProofs (maxSteps := 5000000) only [go_sem, reduceIte, reduceCtorEq, Nat.reduceEqDiff, Nat.reduceBEq, Nat.reduceAdd, Nat.reduceLeDiff, Nat.reduceMul, Nat.reduceLT, Int.reduceEq, Int.reduceLT, Int.reduceLE, hi, i0', i1, hwi, hi1, hwd, g, e, hw, el', hi2]
                rw [fin hrel hend]
                by_cases k7 : (p.getD i default).kind = 7
                · have hs : stOk p i = tryOkF (kindsP p (tailQ p (p.getD i default).depth (endP p i))) := by
                    unfold stOk; rw [k7]; simp only [show followsK 7 = false from rfl, decide_true, Bool.not_true, Bool.not_false, Bool.false_or, Bool.true_or, Bool.and_true, show ¬ (7 : Int) = 5 by decide, show ¬ (7 : Int) = 6 by decide, decide_false, Bool.or_self]
                  rw [hs]
                  simp +contextual -dsimp -implicitDefEqProofs (maxSteps := 5000000) only [go_sem, reduceIte, reduceCtorEq, Nat.reduceEqDiff, Nat.reduceBEq, Nat.reduceAdd, Nat.reduceLeDiff, Nat.reduceMul, Nat.reduceLT, Int.reduceEq, Int.reduceLT, Int.reduceLE, hi, k7]
                  refine (c_validChain p cl' i _ hi hp).det ?_
                  cases hc : tryOkF (kindsP p (tailQ p (p.getD i default).depth (endP p i)))
                  · simp +contextual -dsimp -implicitDefEqProofs (maxSteps := 5000000) only [go_sem, reduceIte, reduceCtorEq, Nat.reduceEqDiff, Nat.reduceBEq, Nat.reduceAdd, Nat.reduceLeDiff, Nat.reduceMul, Nat.reduceLT, Int.reduceEq, Int.reduceLT, Int.reduceLE, hi, k7]
                  · simp +contextual -dsimp -implicitDefEqProofs (maxSteps := 5000000) only [go_sem, reduceIte, reduceCtorEq, Nat.reduceEqDiff, Nat.reduceBEq, Nat.reduceAdd, Nat.reduceLeDiff, Nat.reduceMul, Nat.reduceLT, Int.reduceEq, Int.reduceLT, Int.reduceLE, hi, k7]
                    refine (c_follows _ _).det ?_
                    rw [show followsK 7 = false from rfl]
                    simp +contextual -dsimp -implicitDefEqProofs (maxSteps := 5000000) only [go_sem, reduceIte, reduceCtorEq, Nat.reduceEqDiff, Nat.reduceBEq, Nat.reduceAdd, Nat.reduceLeDiff, Nat.reduceMul, Nat.reduceLT, Int.reduceEq, Int.reduceLT, Int.reduceLE]
                · by_cases k5 : (p.getD i default).kind = 5
                  · have hs : stOk p i = inLoopR (p.getD i default).depth (upto p i) := by
                      unfold stOk; rw [k5]; simp only [show followsK 5 = false from rfl, decide_true, Bool.not_true, Bool.not_false, Bool.false_or, Bool.true_or, Bool.or_true, Bool.and_true, Bool.true_and, show ¬ (5 : Int) = 7 by decide, show ¬ (5 : Int) = 6 by decide, decide_false]
                    rw [hs]
                    simp +contextual -dsimp -implicitDefEqProofs (maxSteps := 5000000) only [go_sem, reduceIte, reduceCtorEq, Nat.reduceEqDiff, Nat.reduceBEq, Nat.reduceAdd, Nat.reduceLeDiff, Nat.reduceMul, Nat.reduceLT, Int.reduceEq, Int.reduceLT, Int.reduceLE, hi, k5]
                    refine (c_inLoop p cl' i _ hi).det ?_
                    cases hc : inLoopR (p.getD i default).depth (upto p i)
                    · simp +contextual -dsimp -implicitDefEqProofs (maxSteps := 5000000) only [go_sem, reduceIte, reduceCtorEq, Nat.reduceEqDiff, Nat.reduceBEq, Nat.reduceAdd, Nat.reduceLeDiff, Nat.reduceMul, Nat.reduceLT, Int.reduceEq, Int.reduceLT, Int.reduceLE, hi, k5]
                    · simp +contextual -dsimp -implicitDefEqProofs (maxSteps := 5000000) only [go_sem, reduceIte, reduceCtorEq, Nat.reduceEqDiff, Nat.reduceBEq, Nat.reduceAdd, Nat.reduceLeDiff, Nat.reduceMul, Nat.reduceLT, Int.reduceEq, Int.reduceLT, Int.reduceLE, hi, k5]
                      refine (c_follows _ _).det ?_
                      rw [show followsK 5 = false from rfl]
                      simp +contextual -dsimp -implicitDefEqProofs (maxSteps := 5000000) only [go_sem, reduceIte, reduceCtorEq, Nat.reduceEqDiff, Nat.reduceBEq, Nat.reduceAdd, Nat.reduceLeDiff, Nat.reduceMul, Nat.reduceLT, Int.reduceEq, Int.reduceLT, Int.reduceLE]
                  · by_cases k6 : (p.getD i default).kind = 6
                    · have hs : stOk p i = inLoopR (p.getD i default).depth (upto p i) := by
                        unfold stOk; rw [k6]; simp only [show followsK 6 = false from rfl, decide_true, Bool.not_true, Bool.not_false, Bool.false_or, Bool.true_or, Bool.or_true, Bool.and_true, Bool.true_and, show ¬ (6 : Int) = 7 by decide, show ¬ (6 : Int) = 5 by decide, decide_false]
                      rw [hs]
                      simp +contextual -dsimp -implicitDefEqProofs (maxSteps := 5000000) only [go_sem, reduceIte, reduceCtorEq, Nat.reduceEqDiff, Nat.reduceBEq, Nat.reduceAdd, Nat.reduceLeDiff, Nat.reduceMul, Nat.reduceLT, Int.reduceEq, Int.reduceLT, Int.reduceLE, hi, k6]
                      refine (c_inLoop p cl' i _ hi).det ?_
                      cases hc : inLoopR (p.getD i default).depth (upto p i)
                      · simp +contextual -dsimp -implicitDefEqProofs (maxSteps := 5000000) only [go_sem, reduceIte, reduceCtorEq, Nat.reduceEqDiff, Nat.reduceBEq, Nat.reduceAdd, Nat.reduceLeDiff, Nat.reduceMul, Nat.reduceLT, Int.reduceEq, Int.reduceLT, Int.reduceLE, hi, k6]
                      · simp +contextual -dsimp -implicitDefEqProofs (maxSteps := 5000000) only [go_sem, reduceIte, reduceCtorEq, Nat.reduceEqDiff, Nat.reduceBEq, Nat.reduceAdd, Nat.reduceLeDiff, Nat.reduceMul, Nat.reduceLT, Int.reduceEq, Int.reduceLT, Int.reduceLE, hi, k6]
                        refine (c_follows _ _).det ?_
                        rw [show followsK 6 = false from rfl]
                        simp +contextual -dsimp -implicitDefEqProofs (maxSteps := 5000000) only [go_sem, reduceIte, reduceCtorEq, Nat.reduceEqDiff, Nat.reduceBEq, Nat.reduceAdd, Nat.reduceLeDiff, Nat.reduceMul, Nat.reduceLT, Int.reduceEq, Int.reduceLT, Int.reduceLE]
                    · have hs : stOk p i = (!followsK (p.getD i default).kind || headOkR (headR (p.getD i default).depth (upto p i))) := by
                        unfold stOk; simp only [k7, k5, k6, decide_false, Bool.not_false, Bool.true_or, Bool.true_and, Bool.or_self]
                      rw [hs]
                      simp +contextual -dsimp -implicitDefEqProofs (maxSteps := 5000000) only [go_sem, reduceIte, reduceCtorEq, Nat.reduceEqDiff, Nat.reduceBEq, Nat.reduceAdd, Nat.reduceLeDiff, Nat.reduceMul, Nat.reduceLT, Int.reduceEq, Int.reduceLT, Int.reduceLE, hi, k5, k6, k7]
                      refine (c_follows _ _).det ?_
                      cases hf : followsK (p.getD i default).kind
                      · simp +contextual -dsimp -implicitDefEqProofs (maxSteps := 5000000) only [go_sem, reduceIte, reduceCtorEq, Nat.reduceEqDiff, Nat.reduceBEq, Nat.reduceAdd, Nat.reduceLeDiff, Nat.reduceMul, Nat.reduceLT, Int.reduceEq, Int.reduceLT, Int.reduceLE]
                      · simp +contextual -dsimp -implicitDefEqProofs (maxSteps := 5000000) only [go_sem, reduceIte, reduceCtorEq, Nat.reduceEqDiff, Nat.reduceBEq, Nat.reduceAdd, Nat.reduceLeDiff, Nat.reduceMul, Nat.reduceLT, Int.reduceEq, Int.reduceLT, Int.reduceLE, hi]
                        refine (c_headOf p cl' i _ hi).mono ?_
                        rintro _ _ ⟨v, rfl, rfl, hv⟩
                        rcases hv with ⟨rfl, hv⟩ | ⟨k, rfl, hk, hv⟩
                        · rw [hv]
                          have z : ¬ (0 : Int) ≤ -1 := by omega
                          simp +contextual -dsimp -implicitDefEqProofs (maxSteps := 5000000) only [go_sem, reduceIte, reduceCtorEq, Nat.reduceEqDiff, Nat.reduceBEq, Nat.reduceAdd, Nat.reduceLeDiff, Nat.reduceMul, Nat.reduceLT, Int.reduceEq, Int.reduceLT, Int.reduceLE, z, headOkR]
                        · rw [hv]
                          simp +contextual -dsimp -implicitDefEqProofs (maxSteps := 5000000) only [go_sem, reduceIte, reduceCtorEq, Nat.reduceEqDiff, Nat.reduceBEq, Nat.reduceAdd, Nat.reduceLeDiff, Nat.reduceMul, Nat.reduceLT, Int.reduceEq, Int.reduceLT, Int.reduceLE, hk, headOkR]
                          by_cases q7 : (p.getD k default).kind = 7
                          · simp +contextual -dsimp -implicitDefEqProofs (maxSteps := 5000000) only [go_sem, reduceIte, reduceCtorEq, Nat.reduceEqDiff, Nat.reduceBEq, Nat.reduceAdd, Nat.reduceLeDiff, Nat.reduceMul, Nat.reduceLT, Int.reduceEq, Int.reduceLT, Int.reduceLE, q7]
                          · simp +contextual -dsimp -implicitDefEqProofs (maxSteps := 5000000) only [go_sem, reduceIte, reduceCtorEq, Nat.reduceEqDiff, Nat.reduceBEq, Nat.reduceAdd, Nat.reduceLeDiff, Nat.reduceMul, Nat.reduceLT, Int.reduceEq, Int.reduceLT, Int.reduceLE, q7, hk]
                            refine (c_follows _ _).det ?_
                            simp +contextual -dsimp -implicitDefEqProofs (maxSteps := 5000000) only [go_sem, reduceIte, reduceCtorEq, Nat.reduceEqDiff, Nat.reduceBEq, Nat.reduceAdd, Nat.reduceLeDiff, Nat.reduceMul, Nat.reduceLT, Int.reduceEq, Int.reduceLT, Int.reduceLE, q7]
                            simp only [headOkR, q7, decide_false, Bool.false_or]
          · cases ho : opensK (p.getD (i - 1) default).kind
            · have hrel : relOk p i = true := by
                rw [er]; unfold stepOk; rw [ho, if_neg (by decide)]; exact decide_eq_true (by omega)
              by_cases el : i + 1 = p.length
              · have el' : (p.length : Int) = ((i + 1 : Nat) : Int) := by omega
                simp +contextual -dsimp -implicitDefEqProofs (maxSteps := 5000000) only [go_sem, reduceIte, reduceCtorEq, Nat.reduceEqDiff, Nat.reduceBEq, Nat.reduceAdd, Nat.reduceLeDiff, Nat.reduceMul, Nat.reduceLT, Int.reduceEq, Int.reduceLT, Int.reduceLE, hi, i0', i1, hwi, hi1, hwd, g, e, hw, el', hi2]
                refine (c_opens _ _).det ?_
                cases ho : opensK (p.getD i default).kind
                · have hend := ee false ho el
                  simp +contextual -dsimp -implicitDefEqProofs (maxSteps := 5000000) only [go_sem, reduceIte, reduceCtorEq, Nat.reduceEqDiff, Nat.reduceBEq, Nat.reduceAdd, Nat.reduceLeDiff, Nat.reduceMul, Nat.reduceLT, Int.reduceEq, Int.reduceLT, Int.reduceLE, hi]
                  rw [fin hrel hend]
                  by_cases k7 : (p.getD i default).kind = 7
                  · have hs : stOk p i = tryOkF (kindsP p (tailQ p (p.getD i default).depth (endP p i))) := by
                      unfold stOk; rw [k7]; simp only [show followsK 7 = false from rfl, decide_true, Bool.not_true, Bool.not_false, Bool.false_or, Bool.true_or, Bool.and_true, show ¬ (7 : Int) = 5 by decide, show ¬ (7 : Int) = 6 by decide, decide_false, Bool.or_self]
                    rw [hs]
                    simp +contextual -dsimp -implicitDefEqProofs (maxSteps := 5000000) only [go_sem, reduceIte, reduceCtorEq, Nat.reduceEqDiff, Nat.reduceBEq, Nat.reduceAdd, Nat.reduceLeDiff, Nat.reduceMul, Nat.reduceLT, Int.reduceEq, Int.reduceLT, Int.reduceLE, hi, k7]
                    refine (c_validChain p cl' i _ hi hp).det ?_
                    cases hc : tryOkF (kindsP p (tailQ p (p.getD i default).depth (endP p i)))
                    · simp +contextual -dsimp -implicitDefEqProofs (maxSteps := 5000000) only [go_sem, reduceIte, reduceCtorEq, Nat.reduceEqDiff, Nat.reduceBEq, Nat.reduceAdd, Nat.reduceLeDiff, Nat.reduceMul, Nat.reduceLT, Int.reduceEq, Int.reduceLT, Int.reduceLE, hi, k7]
                    · simp +contextual -dsimp -implicitDefEqProofs (maxSteps := 5000000) only [go_sem, reduceIte, reduceCtorEq, Nat.reduceEqDiff, Nat.reduceBEq, Nat.reduceAdd, Nat.reduceLeDiff, Nat.reduceMul, Nat.reduceLT, Int.reduceEq, Int.reduceLT, Int.reduceLE, hi, k7]
                      refine (c_follows _ _).det ?_
                      rw [show followsK 7 = false from rfl]
                      simp +contextual -dsimp -implicitDefEqProofs (maxSteps := 5000000) only [go_sem, reduceIte, reduceCtorEq, Nat.reduceEqDiff, Nat.reduceBEq, Nat.reduceAdd, Nat.reduceLeDiff, Nat.reduceMul, Nat.reduceLT, Int.reduceEq, Int.reduceLT, Int.reduceLE]
                  · by_cases k5 : (p.getD i default).kind = 5
                    · have hs : stOk p i = inLoopR (p.getD i default).depth (upto p i) := by
                        unfold stOk; rw [k5]; simp only [show followsK 5 = false from rfl, decide_true, Bool.not_true, Bool.not_false, Bool.false_or, Bool.true_or, Bool.or_true, Bool.and_true, Bool.true_and, show ¬ (5 : Int) = 7 by decide, show ¬ (5 : Int) = 6 by decide, decide_false]
                      rw [hs]
                      simp +contextual -dsimp -implicitDefEqProofs (maxSteps := 5000000) only [go_sem, reduceIte, reduceCtorEq, Nat.reduceEqDiff, Nat.reduceBEq, Nat.reduceAdd, Nat.reduceLeDiff, Nat.reduceMul, Nat.reduceLT, Int.reduceEq, Int.reduceLT, Int.reduceLE, hi, k5]
                      refine (c_inLoop p cl' i _ hi).det ?_
                      cases hc : inLoopR (p.getD i default).depth (upto p i)
                      · simp +contextual -dsimp -implicitDefEqProofs (maxSteps := 5000000) only [go_sem, reduceIte, reduceCtorEq, Nat.reduceEqDiff, Nat.reduceBEq, Nat.reduceAdd, Nat.reduceLeDiff, Nat.reduceMul, Nat.reduceLT, Int.reduceEq, Int.reduceLT, Int.reduceLE, hi, k5]
                      · simp +contextual -dsimp -implicitDefEqProofs (maxSteps := 5000000) only [go_sem, reduceIte, reduceCtorEq, Nat.reduceEqDiff, Nat.reduceBEq, Nat.reduceAdd, Nat.reduceLeDiff, Nat.reduceMul, Nat.reduceLT, Int.reduceEq, Int.reduceLT, Int.reduceLE, hi, k5]
                        refine (c_follows _ _).det ?_
                        rw [show followsK 5 = false from rfl]
                        simp +contextual -dsimp -implicitDefEqProofs (maxSteps := 5000000) only [go_sem, reduceIte, reduceCtorEq, Nat.reduceEqDiff, Nat.reduceBEq, Nat.reduceAdd, Nat.reduceLeDiff, Nat.reduceMul, Nat.reduceLT, Int.reduceEq, Int.reduceLT, Int.reduceLE]
                    · by_cases k6 : (p.getD i default).kind = 6
                      · have hs : stOk p i = inLoopR (p.getD i default).depth (upto p i) := by
                          unfold stOk; rw [k6]; simp only [show followsK 6 = false from rfl, decide_true, Bool.not_true, Bool.not_false, Bool.false_or, Bool.true_or, Bool.or_true, Bool.and_true, Bool.true_and, show ¬ (6 : Int) = 7 by decide, show ¬ (6 : Int) = 5 by decide, decide_false]
                        rw [hs]
                        simp +contextual -dsimp -implicitDefEqProofs (maxSteps := 5000000) only [go_sem, reduceIte, reduceCtorEq, Nat.reduceEqDiff, Nat.reduceBEq, Nat.reduceAdd, Nat.reduceLeDiff, Nat.reduceMul, Nat.reduceLT, Int.reduceEq, Int.reduceLT, Int.reduceLE, hi, k6]
                        refine (c_inLoop p cl' i _ hi).det ?_
                        cases hc : inLoopR (p.getD i default).depth (upto p i)
                        · simp +contextual -dsimp -implicitDefEqProofs (maxSteps := 5000000) only [go_sem, reduceIte, reduceCtorEq, Nat.reduceEqDiff, Nat.reduceBEq, Nat.reduceAdd, Nat.reduceLeDiff, Nat.reduceMul, Nat.reduceLT, Int.reduceEq, Int.reduceLT, Int.reduceLE, hi, k6]
                        · simp +contextual -dsimp -implicitDefEqProofs (maxSteps := 5000000) only [go_sem, reduceIte, reduceCtorEq, Nat.reduceEqDiff, Nat.reduceBEq, Nat.reduceAdd, Nat.reduceLeDiff, Nat.reduceMul, Nat.reduceLT, Int.reduceEq, Int.reduceLT, Int.reduceLE, hi, k6]
                          refine (c_follows _ _).det ?_
                          rw [show followsK 6 = false from rfl]
                          simp +contextual -dsimp -implicitDefEqProofs (maxSteps := 5000000) only [go_sem, reduceIte, reduceCtorEq, Nat.reduceEqDiff, Nat.reduceBEq, Nat.reduceAdd, Nat.reduceLeDiff, Nat.reduceMul, Nat.reduceLT, Int.reduceEq, Int.reduceLT, Int.reduceLE]
                      · have hs : stOk p i = (!followsK (p.getD i default).kind || headOkR (headR (p.getD i default).depth (upto p i))) := by
                          unfold stOk; simp only [k7, k5, k6, decide_false, Bool.not_false, Bool.true_or, Bool.true_and, Bool.or_self]
                        rw [hs]
                        simp +contextual -dsimp -implicitDefEqProofs (maxSteps := 5000000) only [go_sem, reduceIte, reduceCtorEq, Nat.reduceEqDiff, Nat.reduceBEq, Nat.reduceAdd, Nat.reduceLeDiff, Nat.reduceMul, Nat.reduceLT, Int.reduceEq, Int.reduceLT, Int.reduceLE, hi, k5, k6, k7]
                        refine (c_follows _ _).det ?_
                        cases hf : followsK (p.getD i default).kind
                        · simp +contextual -dsimp -implicitDefEqProofs (maxSteps := 5000000) only [go_sem, reduceIte, reduceCtorEq, Nat.reduceEqDiff, Nat.reduceBEq, Nat.reduceAdd, Nat.reduceLeDiff, Nat.reduceMul, Nat.reduceLT, Int.reduceEq, Int.reduceLT, Int.reduceLE]
                        · simp +contextual -dsimp -implicitDefEqProofs (maxSteps := 5000000) only [go_sem, reduceIte, reduceCtorEq, Nat.reduceEqDiff, Nat.reduceBEq, Nat.reduceAdd, Nat.reduceLeDiff, Nat.reduceMul, Nat.reduceLT, Int.reduceEq, Int.reduceLT, Int.reduceLE, hi]
                          refine (c_headOf p cl' i _ hi).mono ?_
                          rintro _ _ ⟨v, rfl, rfl, hv⟩
                          rcases hv with ⟨rfl, hv⟩ | ⟨k, rfl, hk, hv⟩
                          · rw [hv]
                            have z : ¬ (0 : Int) ≤ -1 := by omega
                            simp +contextual -dsimp -implicitDefEqProofs (maxSteps := 5000000) only [go_sem, reduceIte, reduceCtorEq, Nat.reduceEqDiff, Nat.reduceBEq, Nat.reduceAdd, Nat.reduceLeDiff, Nat.reduceMul, Nat.reduceLT, Int.reduceEq, Int.reduceLT, Int.reduceLE, z, headOkR]
                          · rw [hv]
                            simp +contextual -dsimp -implicitDefEqProofs (maxSteps := 5000000) only [go_sem, reduceIte, reduceCtorEq, Nat.reduceEqDiff, Nat.reduceBEq, Nat.reduceAdd, Nat.reduceLeDiff, Nat.reduceMul, Nat.reduceLT, Int.reduceEq, Int.reduceLT, Int.reduceLE, hk, headOkR]
                            by_cases q7 : (p.getD k default).kind = 7
                            · simp +contextual -dsimp -implicitDefEqProofs (maxSteps := 5000000) only [go_sem, reduceIte, reduceCtorEq, Nat.reduceEqDiff, Nat.reduceBEq, Nat.reduceAdd, Nat.reduceLeDiff, Nat.reduceMul, Nat.reduceLT, Int.reduceEq, Int.reduceLT, Int.reduceLE, q7]
                            · simp +contextual -dsimp -implicitDefEqProofs (maxSteps := 5000000) only [go_sem, reduceIte, reduceCtorEq, Nat.reduceEqDiff, Nat.reduceBEq, Nat.reduceAdd, Nat.reduceLeDiff, Nat.reduceMul, Nat.reduceLT, Int.reduceEq, Int.reduceLT, Int.reduceLE, q7, hk]
                              refine (c_follows _ _).det ?_
                              simp +contextual -dsimp -implicitDefEqProofs (maxSteps := 5000000) only [go_sem, reduceIte, reduceCtorEq, Nat.reduceEqDiff, Nat.reduceBEq, Nat.reduceAdd, Nat.reduceLeDiff, Nat.reduceMul, Nat.reduceLT, Int.reduceEq, Int.reduceLT, Int.reduceLE, q7]
                              simp only [headOkR, q7, decide_false, Bool.false_or]
                · rw [bad2 (ee true ho el)]
                  simp +contextual -dsimp -implicitDefEqProofs (maxSteps := 5000000) only [go_sem, reduceIte, reduceCtorEq, Nat.reduceEqDiff, Nat.reduceBEq, Nat.reduceAdd, Nat.reduceLeDiff, Nat.reduceMul, Nat.reduceLT, Int.reduceEq, Int.reduceLT, Int.reduceLE, hi]
              · have el' : ¬ ((i + 1 : Nat) : Int) = (p.length : Int) := by omega
                have hend := en el
                simp +contextual -dsimp -implicitDefEqProofs (maxSteps := 5000000) only [go_sem, reduceIte, reduceCtorEq, Nat.reduceEqDiff, Nat.reduceBEq, Nat.reduceAdd, Nat.reduceLeDiff, Nat.reduceMul, Nat.reduceLT, Int.reduceEq, Int.reduceLT, Int.reduceLE, hi, i0', i1, hwi, hi1, hwd, g, e, hw, el', hi2]
                rw [fin hrel hend]
                by_cases k7 : (p.getD i default).kind = 7
                · have hs : stOk p i = tryOkF (kindsP p (tailQ p (p.getD i default).depth (endP p i))) := by
                    unfold stOk; rw [k7]; simp only [show followsK 7 = false from rfl, decide_true, Bool.not_true, Bool.not_false, Bool.false_or, Bool.true_or, Bool.and_true, show ¬ (7 : Int) = 5 by decide, show ¬ (7 : Int) = 6 by decide, decide_false, Bool.or_self]
                  rw [hs]
                  simp +contextual -dsimp -implicitDefEqProofs (maxSteps := 5000000) only [go_sem, reduceIte, reduceCtorEq, Nat.reduceEqDiff, Nat.reduceBEq, Nat.reduceAdd, Nat.reduceLeDiff, Nat.reduceMul, Nat.reduceLT, Int.reduceEq, Int.reduceLT, Int.reduceLE, hi, k7]
                  refine (c_validChain p cl' i _ hi hp).det ?_
                  cases hc : tryOkF (kindsP p (tailQ p (p.getD i default).depth (endP p i)))
                  · simp +contextual -dsimp -implicitDefEqProofs (maxSteps := 5000000) only [go_sem, reduceIte, reduceCtorEq, Nat.reduceEqDiff, Nat.reduceBEq, Nat.reduceAdd, Nat.reduceLeDiff, Nat.reduceMul, Nat.reduceLT, Int.reduceEq, Int.reduceLT, Int.reduceLE, hi, k7]
                  · simp +contextual -dsimp -implicitDefEqProofs (maxSteps := 5000000) only [go_sem, reduceIte, reduceCtorEq, Nat.reduceEqDiff, Nat.reduceBEq, Nat.reduceAdd, Nat.reduceLeDiff, Nat.reduceMul, Nat.reduceLT, Int.reduceEq, Int.reduceLT, Int.reduceLE, hi, k7]
                    refine (c_follows _ _).det ?_
                    rw [show followsK 7 = false from rfl]
                    simp +contextual -dsimp -implicitDefEqProofs (maxSteps := 5000000) only [go_sem, reduceIte, reduceCtorEq, Nat.reduceEqDiff, Nat.reduceBEq, Nat.reduceAdd, Nat.reduceLeDiff, Nat.reduceMul, Nat.reduceLT, Int.reduceEq, Int.reduceLT, Int.reduceLE]
                · by_cases k5 : (p.getD i default).kind = 5
                  · have hs : stOk p i = inLoopR (p.getD i default).depth (upto p i) := by
                      unfold stOk; rw [k5]; simp only [show followsK 5 = false from rfl, decide_true, Bool.not_true, Bool.not_false, Bool.false_or, Bool.true_or, Bool.or_true, Bool.and_true, Bool.true_and, show ¬ (5 : Int) = 7 by decide, show ¬ (5 : Int) = 6 by decide, decide_false]
                    rw [hs]
                    simp +contextual -dsimp -implicitDefEqProofs (maxSteps := 5000000) only [go_sem, reduceIte, reduceCtorEq, Nat.reduceEqDiff, Nat.reduceBEq, Nat.reduceAdd, Nat.reduceLeDiff, Nat.reduceMul, Nat.reduceLT, Int.reduceEq, Int.reduceLT, Int.reduceLE, hi, k5]
                    refine (c_inLoop p cl' i _ hi).det ?_
                    cases hc : inLoopR (p.getD i default).depth (upto p i)
                    · simp +contextual -dsimp -implicitDefEqProofs (maxSteps := 5000000) only [go_sem, reduceIte, reduceCtorEq, Nat.reduceEqDiff, Nat.reduceBEq, Nat.reduceAdd, Nat.reduceLeDiff, Nat.reduceMul, Nat.reduceLT, Int.reduceEq, Int.reduceLT, Int.reduceLE, hi, k5]
                    · simp +contextual -dsimp -implicitDefEqProofs (maxSteps := 5000000) only [go_sem, reduceIte, reduceCtorEq, Nat.reduceEqDiff, Nat.reduceBEq, Nat.reduceAdd, Nat.reduceLeDiff, Nat.reduceMul, Nat.reduceLT, Int.reduceEq, Int.reduceLT, Int.reduceLE, hi, k5]
                      refine (c_follows _ _).det ?_
                      rw [show followsK 5 = false from rfl]
                      simp +contextual -dsimp -implicitDefEqProofs (maxSteps := 5000000) only [go_sem, reduceIte, reduceCtorEq, Nat.reduceEqDiff, Nat.reduceBEq, Nat.reduceAdd, Nat.reduceLeDiff, Nat.reduceMul, Nat.reduceLT, Int.reduceEq, Int.reduceLT, Int.reduceLE]
                  · by_cases k6 : (p.getD i default).kind = 6
                    · have hs : stOk p i = inLoopR (p.getD i default).depth (upto p i) := by
                        unfold stOk; rw [k6]; simp only [show followsK 6 = false from rfl, decide_true, Bool.not_true, Bool.not_false, Bool.false_or, Bool.true_or, Bool.or_true, Bool.and_true, Bool.true_and, show ¬ (6 : Int) = 7 by decide, show ¬ (6 : Int) = 5 by decide, decide_false]
                      rw [hs]
                      simp +contextual -dsimp -implicitDefEqProofs (maxSteps := 5000000) only [go_sem, reduceIte, reduceCtorEq, Nat.reduceEqDiff, Nat.reduceBEq, Nat.reduceAdd, Nat.reduceLeDiff, Nat.reduceMul, Nat.reduceLT, Int.reduceEq, Int.reduceLT, Int.reduceLE, hi, k6]
                      refine (c_inLoop p cl' i _ hi).det ?_
                      cases hc : inLoopR (p.getD i default).depth (upto p i)
                      · simp +contextual -dsimp -implicitDefEqProofs (maxSteps := 5000000) only [go_sem, reduceIte, reduceCtorEq, Nat.reduceEqDiff, Nat.reduceBEq, Nat.reduceAdd, Nat.reduceLeDiff, Nat.reduceMul, Nat.reduceLT, Int.reduceEq, Int.reduceLT, Int.reduceLE, hi, k6]
                      · simp +contextual -dsimp -implicitDefEqProofs (maxSteps := 5000000) only [go_sem, reduceIte, reduceCtorEq, Nat.reduceEqDiff, Nat.reduceBEq, Nat.reduceAdd, Nat.reduceLeDiff, Nat.reduceMul, Nat.reduceLT, Int.reduceEq, Int.reduceLT, Int.reduceLE, hi, k6]
                        refine (c_follows _ _).det ?_
                        rw [show followsK 6 = false from rfl]
                        simp +contextual -dsimp -implicitDefEqProofs (maxSteps := 5000000) only [go_sem, reduceIte, reduceCtorEq, Nat.reduceEqDiff, Nat.reduceBEq, Nat.reduceAdd, Nat.reduceLeDiff, Nat.reduceMul, Nat.reduceLT, Int.reduceEq, Int.reduceLT, Int.reduceLE]
                    · have hs : stOk p i = (!followsK (p.getD i default).kind || headOkR (headR (p.getD i default).depth (upto p i))) := by
                        unfold stOk; simp only [k7, k5, k6, decide_false, Bool.not_false, Bool.true_or, Bool.true_and, Bool.or_self]
                      rw [hs]
                      simp +contextual -dsimp -implicitDefEqProofs (maxSteps := 5000000) only [go_sem, reduceIte, reduceCtorEq, Nat.reduceEqDiff, Nat.reduceBEq, Nat.reduceAdd, Nat.reduceLeDiff, Nat.reduceMul, Nat.reduceLT, Int.reduceEq, Int.reduceLT, Int.reduceLE, hi, k5, k6, k7]
                      refine (c_follows _ _).det ?_
                      cases hf : followsK (p.getD i default).kind
                      · simp +contextual -dsimp -implicitDefEqProofs (maxSteps := 5000000) only [go_sem, reduceIte, reduceCtorEq, Nat.reduceEqDiff, Nat.reduceBEq, Nat.reduceAdd, Nat.reduceLeDiff, Nat.reduceMul, Nat.reduceLT, Int.reduceEq, Int.reduceLT, Int.reduceLE]
                      · simp +contextual -dsimp -implicitDefEqProofs (maxSteps := 5000000) only [go_sem, reduceIte, reduceCtorEq, Nat.reduceEqDiff, Nat.reduceBEq, Nat.reduceAdd, Nat.reduceLeDiff, Nat.reduceMul, Nat.reduceLT, Int.reduceEq, Int.reduceLT, Int.reduceLE, hi]
                        refine (c_headOf p cl' i _ hi).mono ?_
                        rintro _ _ ⟨v, rfl, rfl, hv⟩
                        rcases hv with ⟨rfl, hv⟩ | ⟨k, rfl, hk, hv⟩
                        · rw [hv]
                          have z : ¬ (0 : Int) ≤ -1 := by omega
                          simp +contextual -dsimp -implicitDefEqProofs (maxSteps := 5000000) only [go_sem, reduceIte, reduceCtorEq, Nat.reduceEqDiff, Nat.reduceBEq, Nat.reduceAdd, Nat.reduceLeDiff, Nat.reduceMul, Nat.reduceLT, Int.reduceEq, Int.reduceLT, Int.reduceLE, z, headOkR]
                        · rw [hv]
                          simp +contextual -dsimp -implicitDefEqProofs (maxSteps := 5000000) only [go_sem, reduceIte, reduceCtorEq, Nat.reduceEqDiff, Nat.reduceBEq, Nat.reduceAdd, Nat.reduceLeDiff, Nat.reduceMul, Nat.reduceLT, Int.reduceEq, Int.reduceLT, Int.reduceLE, hk, headOkR]
                          by_cases q7 : (p.getD k default).kind = 7
                          · simp +contextual -dsimp -implicitDefEqProofs (maxSteps := 5000000) only [go_sem, reduceIte, reduceCtorEq, Nat.reduceEqDiff, Nat.reduceBEq, Nat.reduceAdd, Nat.reduceLeDiff, Nat.reduceMul, Nat.reduceLT, Int.reduceEq, Int.reduceLT, Int.reduceLE, q7]
                          · simp +contextual -dsimp -implicitDefEqProofs (maxSteps := 5000000) only [go_sem, reduceIte, reduceCtorEq, Nat.reduceEqDiff, Nat.reduceBEq, Nat.reduceAdd, Nat.reduceLeDiff, Nat.reduceMul, Nat.reduceLT, Int.reduceEq, Int.reduceLT, Int.reduceLE, q7, hk]
                            refine (c_follows _ _).det ?_
                            simp +contextual -dsimp -implicitDefEqProofs (maxSteps := 5000000) only [go_sem, reduceIte, reduceCtorEq, Nat.reduceEqDiff, Nat.reduceBEq, Nat.reduceAdd, Nat.reduceLeDiff, Nat.reduceMul, Nat.reduceLT, Int.reduceEq, Int.reduceLT, Int.reduceLE, q7]
                            simp only [headOkR, q7, decide_false, Bool.false_or]
            · have hb : relOk p i = false := by
                rw [er]; unfold stepOk; rw [ho, if_pos rfl]; exact decide_eq_false e
              simp +contextual -dsimp -implicitDefEqProofs (maxSteps := 5000000) only [go_sem, reduceIte, reduceCtorEq, Nat.reduceEqDiff, Nat.reduceBEq, Nat.reduceAdd, Nat.reduceLeDiff, Nat.reduceMul, Nat.reduceLT, Int.reduceEq, Int.reduceLT, Int.reduceLE, hi, i0', i1, hwi, hi1, hwd, g, e, bad1 hb]
theorem lastI_eq {t : List Class} {p : List Line} : (∀ i, i < p.length → lineOk t p i = true) ↔ ((depT t p = true ∧ (p ≠ [] → (p.getD 0 default).depth = 0)) ∧ ∀ i, i < p.length → stOk p i = true) := by
  rw [depT_iff]
  simp only [lineOk, Bool.and_eq_true]
  constructor
  · intro h
    refine ⟨⟨⟨fun i hi => (h i hi).1, fun i hi => ?_, fun hne => ?_⟩, fun hne => ?_⟩, fun i hi => (h i hi).2.2⟩
    · have := (h (i + 1) hi).2.1.1
      unfold relOk at this
      rw [if_neg (by omega), Nat.add_sub_cancel] at this
      exact this
    · have hl := List.length_pos_iff.2 hne
      have := (h (p.length - 1) (by omega)).2.1.2
      unfold endOk at this
      rw [decide_eq_true (show p.length - 1 + 1 = p.length by omega), Bool.true_and, Bool.not_eq_true'] at this
      exact this
    · have hl := List.length_pos_iff.2 hne
      have := (h 0 hl).2.1.1
      unfold relOk at this
      rw [if_pos rfl] at this
      simpa using this
  · rintro ⟨⟨⟨h1, h2, h3⟩, h4⟩, h5⟩ i hi
    have hne : p ≠ [] := fun q => by rw [q] at hi; cases hi
    refine ⟨h1 i hi, ⟨?_, ?_⟩, h5 i hi⟩
    · unfold relOk
      split
      · rename_i i0; subst i0; simpa using h4 hne
      · have := h2 (i - 1) (by omega)
        rw [show i - 1 + 1 = i by omega] at this
        exact this
    · unfold endOk
      by_cases e : i + 1 = p.length
      · have := h3 hne
        rw [show p.length - 1 = i by omega] at this
        rw [this]; simp
      · rw [decide_eq_false e]; rfl
/-- What the reference looks at, line by line, is what makes a program valid. -/
theorem validP_lines (t : List Class) (p : List Line) : ValidP t p ↔ ((∀ i, i < p.length → lineOk t p i = true) ∧ validT t = true ∧ p.length ≤ 24) := by
  rw [lastI_eq]
  constructor
  · rintro ⟨h1, h2, f, rfl, h3, h4⟩
    refine ⟨⟨⟨?_, fun hne => ?_⟩, ?_⟩, h1, h2⟩
    · have := depT_flat (t := t) f 0 [] h3 (low_nil _) rfl
      simpa using this
    · cases f with
      | nil => exact absurd rfl hne
      | node k a b x y => rfl
    · have hat := at_top (f := f) rfl
      have := (st_ok f 0 0 false false hat h3 (by simp [upto, inLoopR]) (by simp [upto, headR, headOkR])).2 h4
      exact fun i hi => this i (by omega) (by rw [Nat.zero_add, ← flat_len f 0]; exact hi)
  · rintro ⟨⟨⟨h1, h2⟩, h3⟩, h4, h5⟩
    obtain ⟨f, hf, hn⟩ := forest_top h1 h2
    refine ⟨h4, h5, f, hf, hn, ?_⟩
    have hat := at_top hf
    exact (st_ok f 0 0 false false hat hn (by simp [upto, inLoopR]) (by simp [upto, headR, headOkR])).1 fun i _ hi => h3 i (by rw [hf, flat_len]; omega)
theorem validP_blocks {t : List Class} {p : List Line} {f : Fo} (h1 : validT t = true) (h2 : p.length ≤ 24) (hf : p = f.flat 0) (hn : numsF t f 0 = true) : ValidP t p ↔ okF f false false = true := by
  constructor
  · rintro ⟨_, _, g, hg, _, h⟩
    have : f = g := flat_one (d := 0) (by rw [← hf, ← hg])
    rw [this]; exact h
  · exact fun h => ⟨h1, h2, f, hf, hn, h⟩
/-- Whether lines are a valid program, as a truth value. -/
noncomputable def validB (t : List Class) (p : List Line) : Bool := @decide (ValidP t p) (Classical.propDecidable _)
theorem validB_true {t : List Class} {p : List Line} : validB t p = true ↔ ValidP t p := by unfold validB; exact @decide_eq_true_iff _ (Classical.propDecidable _)
theorem validB_false {t : List Class} {p : List Line} : validB t p = false ↔ ¬ ValidP t p := by unfold validB; exact @decide_eq_false_iff_not _ (Classical.propDecidable _)
theorem validB_is {t : List Class} {p : List Line} {b : Bool} (h : ValidP t p ↔ b = true) : validB t p = b := by
  cases b
  · exact validB_false.2 (fun q => by cases h.1 q)
  · exact validB_true.2 (h.2 rfl)
theorem c_svalidProgram (t : List Class) (cl : Bool) (p : List Line) (cl' : Bool) (H : AHeap) (hn : namesOk t) (hp : p.length ≤ 4398046511104) :
    ACalls Tryz.prog 38 [aTree t cl, aProg p cl'] H fun r H' => r = B (validB t p) ∧ H' = H := by
  refine acalls_of0 Tryz.func38 rfl (by kernel_rfl) rfl rfl (awp_sound (fz := fun _ => []) (im := fun s => s == 2) mixed _ _ _ _ (by kernel_rfl) ?_)
  simp +contextual -dsimp -implicitDefEqProofs (maxSteps := 5000000) only [go_sem, reduceIte, reduceCtorEq, Nat.reduceEqDiff, Nat.reduceBEq, Nat.reduceAdd, Nat.reduceLeDiff, Nat.reduceMul, Nat.reduceLT, Int.reduceEq, Int.reduceLT, Int.reduceLE]
  refine aloop mixed (fz := fun _ => []) (im := fun s => s == 2) (by kernel_rfl) (fun m tm H' => ∃ k : Nat, m = p.length - k ∧ k ≤ p.length ∧ H' = H ∧ tm 1 = aProg p cl' ∧ tm 2 = .vptr [[.vsl (t.map rClass) cl]] 0 0 ∧ tm 5 = I k ∧ ∀ i, i < k → lineOk t p i = true) p.length ⟨0, by omega, by omega, rfl, ?_⟩ ?_
  · simp +contextual -dsimp -implicitDefEqProofs (maxSteps := 5000000) only [go_sem, reduceIte, reduceCtorEq, Nat.reduceEqDiff, Nat.reduceBEq, Nat.reduceAdd, Nat.reduceLeDiff, Nat.reduceMul, Nat.reduceLT, Int.reduceEq, Int.reduceLT, Int.reduceLE]
    exact fun i hi => by omega
  · rintro m tm H ⟨k, rfl, hk, rfl, t1, t2, t5, hok⟩
    by_cases hlt : k < p.length
    · simp +contextual -dsimp -implicitDefEqProofs (maxSteps := 5000000) only [go_sem, reduceIte, reduceCtorEq, Nat.reduceEqDiff, Nat.reduceBEq, Nat.reduceAdd, Nat.reduceLeDiff, Nat.reduceMul, Nat.reduceLT, Int.reduceEq, Int.reduceLT, Int.reduceLE, t1, t2, t5, hlt]
      refine (c_validLine t cl p cl' k _ hlt hp (fun k0 => ?_)).det ?_
      · have := hok (k - 1) (by omega)
        simp only [lineOk, Bool.and_eq_true] at this
        exact (oneOk_num this.1).2
      · cases hl : lineOk t p k
        · simp +contextual -dsimp -implicitDefEqProofs (maxSteps := 5000000) only [go_sem, reduceIte, reduceCtorEq, Nat.reduceEqDiff, Nat.reduceBEq, Nat.reduceAdd, Nat.reduceLeDiff, Nat.reduceMul, Nat.reduceLT, Int.reduceEq, Int.reduceLT, Int.reduceLE]
          rw [validB_false.2 (fun q => by rw [((validP_lines t p).1 q).1 k hlt] at hl; cases hl)]
        · simp +contextual -dsimp -implicitDefEqProofs (maxSteps := 5000000) only [go_sem, reduceIte, reduceCtorEq, Nat.reduceEqDiff, Nat.reduceBEq, Nat.reduceAdd, Nat.reduceLeDiff, Nat.reduceMul, Nat.reduceLT, Int.reduceEq, Int.reduceLT, Int.reduceLE, t1, t2, t5]
          exact ⟨_, by omega, k + 1, rfl, hlt, I_wrap (by omega) (by omega) (by omega), fun i hi => by
            rcases Nat.lt_or_ge i k with q | q
            · exact hok i q
            · rw [show i = k by omega]; exact hl⟩
    · have hke : k = p.length := by omega
      subst hke
      simp +contextual -dsimp -implicitDefEqProofs (maxSteps := 5000000) only [go_sem, reduceIte, reduceCtorEq, Nat.reduceEqDiff, Nat.reduceBEq, Nat.reduceAdd, Nat.reduceLeDiff, Nat.reduceMul, Nat.reduceLT, Int.reduceEq, Int.reduceLT, Int.reduceLE, t1, t2, t5, hlt]
      refine (c_validTree t cl _ hn).det ?_
      cases e1 : validT t
      · simp +contextual -dsimp -implicitDefEqProofs (maxSteps := 5000000) only [go_sem, reduceIte, reduceCtorEq, Nat.reduceEqDiff, Nat.reduceBEq, Nat.reduceAdd, Nat.reduceLeDiff, Nat.reduceMul, Nat.reduceLT, Int.reduceEq, Int.reduceLT, Int.reduceLE]
        rw [validB_false.2 (fun q => by rw [q.1] at e1; cases e1)]
      · simp +contextual -dsimp -implicitDefEqProofs (maxSteps := 5000000) only [go_sem, reduceIte, reduceCtorEq, Nat.reduceEqDiff, Nat.reduceBEq, Nat.reduceAdd, Nat.reduceLeDiff, Nat.reduceMul, Nat.reduceLT, Int.reduceEq, Int.reduceLT, Int.reduceLE, t1]
        have : validB t p = decide ((p.length : Int) ≤ 24) := validB_is (by
          rw [validP_lines, e1, decide_eq_true_iff]
          exact ⟨fun q => by have := q.2.2; omega, fun q => ⟨hok, rfl, by omega⟩⟩)
        rw [this]
end
section
open Go Go.Sim
set_option maxRecDepth 100000
set_option maxHeartbeats 4000000

def lastL (p : List Line) (k : Nat) : Line := if k = 0 then ⟨-1, 7, 0, 0⟩ else p.getD (k - 1) default
theorem lastL_rel (p : List Line) (k : Nat) : relOk p k = stepOk (lastL p k) (p.getD k default) := by
  unfold relOk lastL
  split
  · rfl
  · rfl
theorem lastL_succ (p : List Line) (k : Nat) : lastL p (k + 1) = p.getD k default := by unfold lastL; rw [if_neg (by omega), Nat.add_sub_cancel]
theorem c_ValidProgram (t : List Class) (cl : Bool) (p : List Line) (cl' : Bool) (H : AHeap) (hn : namesOk t) (hp : p.length ≤ 4398046511104) :
    ACalls Tryz.prog 13 [aTree t cl, aProg p cl'] H fun r H' => r = B (validB t p) ∧ H' = H := by
  refine acalls_of1 Tryz.func13 rfl (by kernel_rfl) rfl rfl (awp_sound (fz := fun r => if r = 6 then [7] else []) (im := fun s => s == 2) mixed _ _ _ _ (by kernel_rfl) ?_)
  simp +contextual -dsimp -implicitDefEqProofs (maxSteps := 5000000) only [go_sem, reduceIte, reduceCtorEq, Nat.reduceEqDiff, Nat.reduceBEq, Nat.reduceAdd, Nat.reduceLeDiff, Nat.reduceMul, Nat.reduceLT, Int.reduceEq, Int.reduceLT, Int.reduceLE]
  refine (c_ValidTree t cl _ hn).det ?_
  cases e1 : validT t
  · rw [validB_false.2 (fun q => by rw [q.1] at e1; cases e1)]
    simp +contextual -dsimp -implicitDefEqProofs (maxSteps := 5000000) only [go_sem, reduceIte, reduceCtorEq, Nat.reduceEqDiff, Nat.reduceBEq, Nat.reduceAdd, Nat.reduceLeDiff, Nat.reduceMul, Nat.reduceLT, Int.reduceEq, Int.reduceLT, Int.reduceLE]
    refine retR_less (l := [B false]) (H' := H) ?_ (AHeap.le_refl _) ⟨rfl, rfl⟩
    simp only [resA, go_sem, reduceIte, reduceCtorEq, Nat.reduceEqDiff, Nat.reduceBEq, Nat.reduceAdd, Nat.reduceLeDiff, Nat.reduceMul, Nat.reduceLT, Int.reduceEq, Int.reduceLT, Int.reduceLE]
  · by_cases h24 : (24 : Int) < p.length
    · rw [validB_false.2 (fun q => by have := q.2.1; omega)]
      simp +contextual -dsimp -implicitDefEqProofs (maxSteps := 5000000) only [go_sem, reduceIte, reduceCtorEq, Nat.reduceEqDiff, Nat.reduceBEq, Nat.reduceAdd, Nat.reduceLeDiff, Nat.reduceMul, Nat.reduceLT, Int.reduceEq, Int.reduceLT, Int.reduceLE, h24]
      refine retR_less (l := [B false]) (H' := H) ?_ (AHeap.le_refl _) ⟨rfl, rfl⟩
      simp only [resA, go_sem, reduceIte, reduceCtorEq, Nat.reduceEqDiff, Nat.reduceBEq, Nat.reduceAdd, Nat.reduceLeDiff, Nat.reduceMul, Nat.reduceLT, Int.reduceEq, Int.reduceLT, Int.reduceLE]
    · simp +contextual -dsimp -implicitDefEqProofs (maxSteps := 5000000) only [go_sem, reduceIte, reduceCtorEq, Nat.reduceEqDiff, Nat.reduceBEq, Nat.reduceAdd, Nat.reduceLeDiff, Nat.reduceMul, Nat.reduceLT, Int.reduceEq, Int.reduceLT, Int.reduceLE, h24]
      intro b5 hb5
      refine aloop mixed (fz := fun r => if r = 6 then [7] else []) (im := fun s => s == 2) (by kernel_rfl) (fun m tm H' => ∃ k : Nat, m = p.length - k ∧ k ≤ p.length ∧ H' = H.set b5 ⟨4, 50, [rLine (lastL p k)]⟩ ∧ tm 1 = aProg p cl' ∧ tm 2 = .vptr [[.vsl (t.map rClass) cl]] 0 0 ∧ tm 5 = .ptr b5 4 0 0 ∧ tm 17 = aProg p cl' ∧ tm 18 = I p.length ∧ tm 19 = I k ∧ ∀ i, i < k → (oneOk t (p.getD i default) && relOk p i) = true) p.length ⟨0, by omega, by omega, rfl, ?_⟩ ?_
      · simp +contextual -dsimp -implicitDefEqProofs (maxSteps := 5000000) only [go_sem, reduceIte, reduceCtorEq, Nat.reduceEqDiff, Nat.reduceBEq, Nat.reduceAdd, Nat.reduceLeDiff, Nat.reduceMul, Nat.reduceLT, Int.reduceEq, Int.reduceLT, Int.reduceLE]
        exact fun i hi => by omega
      · rintro m tm H' ⟨k, rfl, hk, rfl, t1, t2, t5, t17, t18, t19, hok⟩
        by_cases hlt : k < p.length
        · have hld : -1 ≤ (lastL p k).depth ∧ (lastL p k).depth ≤ 5 := by
            unfold lastL
            split
            · exact ⟨by show (-1 : Int) ≤ -1; omega, by show (-1 : Int) ≤ 5; omega⟩
            · have := hok (k - 1) (by omega)
              rw [Bool.and_eq_true] at this
              have := inR5 (oneOk_num this.1).2
              omega
          have hw : IntKind.i64.wrap ((lastL p k).depth + 1) = (lastL p k).depth + 1 := w64 (by omega) (by omega)
          have bad : (oneOk t (p.getD k default) && relOk p k) = false → B false = B (validB t p) := fun q => by
            rw [validB_false.2 (fun v => ?_)]
            have := ((validP_lines t p).1 v).1 k hlt
            simp only [lineOk, Bool.and_eq_true] at this
            rw [this.1, this.2.1.1] at q
            cases q
          have hrl := lastL_rel p k
          unfold oneOk at bad
          have nxt : numOk t (p.getD k default).kind (p.getD k default).a (p.getD k default).b = true → inR (p.getD k default).depth 0 5 = true → relOk p k = true → ∀ i, i < k + 1 → oneOk t (p.getD i default) = true ∧ relOk p i = true := fun q1 q2 q3 i hi => by
            rcases Nat.lt_or_ge i k with z | z
            · have := hok i z; rw [Bool.and_eq_true] at this; exact this
            · rw [show i = k by omega]; exact ⟨by unfold oneOk; rw [q1, q2]; rfl, q3⟩
          simp +contextual -dsimp -implicitDefEqProofs (maxSteps := 5000000) only [go_sem, reduceIte, reduceCtorEq, Nat.reduceEqDiff, Nat.reduceBEq, Nat.reduceAdd, Nat.reduceLeDiff, Nat.reduceMul, Nat.reduceLT, Int.reduceEq, Int.reduceLT, Int.reduceLE, t1, t2, t5, t17, t18, t19, hlt]
          intro b7 hb7
          refine (c_argued t cl (p.getD k default) _).det ?_
          cases h1 : numOk t (p.getD k default).kind (p.getD k default).a (p.getD k default).b
          · have hb := bad (by rw [h1]; rfl)
            simp +contextual -dsimp -implicitDefEqProofs (maxSteps := 5000000) only [go_sem, reduceIte, reduceCtorEq, Nat.reduceEqDiff, Nat.reduceBEq, Nat.reduceAdd, Nat.reduceLeDiff, Nat.reduceMul, Nat.reduceLT, Int.reduceEq, Int.reduceLT, Int.reduceLE, t1, t2, t5, t17, t18, t19, hb7]
            rw [hb]
            refine retR_less (l := [B (validB t p)]) (H' := H) ?_ (le_set hb5) ⟨rfl, rfl⟩
            simp only [resA, go_sem, reduceIte, reduceCtorEq, Nat.reduceEqDiff, Nat.reduceBEq, Nat.reduceAdd, Nat.reduceLeDiff, Nat.reduceMul, Nat.reduceLT, Int.reduceEq, Int.reduceLT, Int.reduceLE]
          · simp +contextual -dsimp -implicitDefEqProofs (maxSteps := 5000000) only [go_sem, reduceIte, reduceCtorEq, Nat.reduceEqDiff, Nat.reduceBEq, Nat.reduceAdd, Nat.reduceLeDiff, Nat.reduceMul, Nat.reduceLT, Int.reduceEq, Int.reduceLT, Int.reduceLE, t1, t2, t5, t17, t18, t19, hb7]
            refine (c_within _ _ _ _).det ?_
            cases h2 : inR (p.getD k default).depth 0 5
            · have hb := bad (by rw [h1, h2]; rfl)
              simp +contextual -dsimp -implicitDefEqProofs (maxSteps := 5000000) only [go_sem, reduceIte, reduceCtorEq, Nat.reduceEqDiff, Nat.reduceBEq, Nat.reduceAdd, Nat.reduceLeDiff, Nat.reduceMul, Nat.reduceLT, Int.reduceEq, Int.reduceLT, Int.reduceLE, t1, t2, t5, t17, t18, t19, hb7]
              rw [hb]
              refine retR_less (l := [B (validB t p)]) (H' := H) ?_ (le_set hb5) ⟨rfl, rfl⟩
              simp only [resA, go_sem, reduceIte, reduceCtorEq, Nat.reduceEqDiff, Nat.reduceBEq, Nat.reduceAdd, Nat.reduceLeDiff, Nat.reduceMul, Nat.reduceLT, Int.reduceEq, Int.reduceLT, Int.reduceLE]
            · simp +contextual -dsimp -implicitDefEqProofs (maxSteps := 5000000) only [go_sem, reduceIte, reduceCtorEq, Nat.reduceEqDiff, Nat.reduceBEq, Nat.reduceAdd, Nat.reduceLeDiff, Nat.reduceMul, Nat.reduceLT, Int.reduceEq, Int.reduceLT, Int.reduceLE, t1, t2, t5, t17, t18, t19, hb7]
              refine (c_lineOpens (lastL p k) _).det ?_
              cases ho : opensK (lastL p k).kind
              · simp +contextual -dsimp -implicitDefEqProofs (maxSteps := 5000000) only [go_sem, reduceIte, reduceCtorEq, Nat.reduceEqDiff, Nat.reduceBEq, Nat.reduceAdd, Nat.reduceLeDiff, Nat.reduceMul, Nat.reduceLT, Int.reduceEq, Int.reduceLT, Int.reduceLE, t1, t2, t5, t17, t18, t19, hb7]
                refine (c_lineOpens (lastL p k) _).det ?_
                rw [ho]
                by_cases e : (lastL p k).depth < (p.getD k default).depth
                · have hb := bad (by rw [h1, h2, hrl]; unfold stepOk; rw [ho, if_neg (by decide), decide_eq_false (by omega)]; rfl)
                  simp +contextual -dsimp -implicitDefEqProofs (maxSteps := 5000000) only [go_sem, reduceIte, reduceCtorEq, Nat.reduceEqDiff, Nat.reduceBEq, Nat.reduceAdd, Nat.reduceLeDiff, Nat.reduceMul, Nat.reduceLT, Int.reduceEq, Int.reduceLT, Int.reduceLE, t1, t2, t5, t17, t18, t19, hb7, e]
                  rw [hb]
                  refine retR_less (l := [B (validB t p)]) (H' := H) ?_ (le_set hb5) ⟨rfl, rfl⟩
                  simp only [resA, go_sem, reduceIte, reduceCtorEq, Nat.reduceEqDiff, Nat.reduceBEq, Nat.reduceAdd, Nat.reduceLeDiff, Nat.reduceMul, Nat.reduceLT, Int.reduceEq, Int.reduceLT, Int.reduceLE]
                · simp +contextual -dsimp -implicitDefEqProofs (maxSteps := 5000000) only [go_sem, reduceIte, reduceCtorEq, Nat.reduceEqDiff, Nat.reduceBEq, Nat.reduceAdd, Nat.reduceLeDiff, Nat.reduceMul, Nat.reduceLT, Int.reduceEq, Int.reduceLT, Int.reduceLE, t1, t2, t5, t17, t18, t19, hb7, e]
                  refine ⟨_, by omega, k + 1, rfl, hlt, by rw [lastL_succ], I_wrap (by omega) (by omega) (by omega), ?_⟩
                  exact nxt h1 h2 (by rw [hrl]; unfold stepOk; rw [ho, if_neg (by decide)]; exact decide_eq_true (by omega))
              · by_cases e : (p.getD k default).depth = (lastL p k).depth + 1
                · simp +contextual -dsimp -implicitDefEqProofs (maxSteps := 5000000) only [go_sem, reduceIte, reduceCtorEq, Nat.reduceEqDiff, Nat.reduceBEq, Nat.reduceAdd, Nat.reduceLeDiff, Nat.reduceMul, Nat.reduceLT, Int.reduceEq, Int.reduceLT, Int.reduceLE, t1, t2, t5, t17, t18, t19, hb7, hw, e]
                  refine (c_lineOpens (lastL p k) _).det ?_
                  rw [ho]
                  simp +contextual -dsimp -implicitDefEqProofs (maxSteps := 5000000) only [go_sem, reduceIte, reduceCtorEq, Nat.reduceEqDiff, Nat.reduceBEq, Nat.reduceAdd, Nat.reduceLeDiff, Nat.reduceMul, Nat.reduceLT, Int.reduceEq, Int.reduceLT, Int.reduceLE, t1, t2, t5, t17, t18, t19, hb7]
                  refine ⟨_, by omega, k + 1, rfl, hlt, by rw [lastL_succ], I_wrap (by omega) (by omega) (by omega), ?_⟩
                  exact nxt h1 h2 (by rw [hrl]; unfold stepOk; rw [ho, if_pos rfl]; exact decide_eq_true e)
                · have hb := bad (by rw [h1, h2, hrl]; unfold stepOk; rw [ho, if_pos rfl, decide_eq_false e]; rfl)
                  simp +contextual -dsimp -implicitDefEqProofs (maxSteps := 5000000) only [go_sem, reduceIte, reduceCtorEq, Nat.reduceEqDiff, Nat.reduceBEq, Nat.reduceAdd, Nat.reduceLeDiff, Nat.reduceMul, Nat.reduceLT, Int.reduceEq, Int.reduceLT, Int.reduceLE, t1, t2, t5, t17, t18, t19, hb7, hw, e]
                  rw [hb]
                  refine retR_less (l := [B (validB t p)]) (H' := H) ?_ (le_set hb5) ⟨rfl, rfl⟩
                  simp only [resA, go_sem, reduceIte, reduceCtorEq, Nat.reduceEqDiff, Nat.reduceBEq, Nat.reduceAdd, Nat.reduceLeDiff, Nat.reduceMul, Nat.reduceLT, Int.reduceEq, Int.reduceLT, Int.reduceLE]
        · have hke : k = p.length := by omega
          subst hke
          have hok1 : ∀ i, i < p.length → oneOk t (p.getD i default) = true := fun i hi => by have := hok i hi; rw [Bool.and_eq_true] at this; exact this.1
          have hok2 : ∀ i, i < p.length → relOk p i = true := fun i hi => by have := hok i hi; rw [Bool.and_eq_true] at this; exact this.2
          have h24' : p.length ≤ 24 := by omega
          by_cases hp0 : p.length = 0
          · have hpn : p = [] := List.eq_nil_of_length_eq_zero hp0
            have hat := at_top (f := .nil) (p := p) hpn
            have hblk := c_blockOk p cl' hp 1 .nil 0 0 false (H.set b5 ⟨4, 50, [rLine (lastL p 0)]⟩) (by simp [Fo.size]) hat
            have e0 : ((0 + Fo.nil.size : Nat) : Int) = 0 := rfl
            have e1' : ((0 : Nat) : Int) = 0 := rfl
            rw [e0, e1'] at hblk
            have hv : validB t p = true := validB_true.2 ⟨e1, h24', .nil, hpn, rfl, rfl⟩
            have hp0' : (p.length : Int) = 0 := by omega
            rw [hv]
            simp +contextual -dsimp -implicitDefEqProofs (maxSteps := 5000000) only [go_sem, reduceIte, reduceCtorEq, Nat.reduceEqDiff, Nat.reduceBEq, Nat.reduceAdd, Nat.reduceLeDiff, Nat.reduceMul, Nat.reduceLT, Int.reduceEq, Int.reduceLT, Int.reduceLE, t1, t2, t5, t17, t18, t19, hlt, hp0, hp0']
            refine hblk.det ?_
            simp +contextual -dsimp -implicitDefEqProofs (maxSteps := 5000000) only [go_sem, reduceIte, reduceCtorEq, Nat.reduceEqDiff, Nat.reduceBEq, Nat.reduceAdd, Nat.reduceLeDiff, Nat.reduceMul, Nat.reduceLT, Int.reduceEq, Int.reduceLT, Int.reduceLE, okF]
            refine retR_less (l := [B true]) (H' := H) ?_ (le_set hb5) ⟨rfl, rfl⟩
            simp only [resA, go_sem, reduceIte, reduceCtorEq, Nat.reduceEqDiff, Nat.reduceBEq, Nat.reduceAdd, Nat.reduceLeDiff, Nat.reduceMul, Nat.reduceLT, Int.reduceEq, Int.reduceLT, Int.reduceLE]
          · have hp0' : ¬ (p.length : Int) = 0 := by omega
            have hlast : lastL p p.length = p.getD (p.length - 1) default := by unfold lastL; rw [if_neg hp0]
            simp +contextual -dsimp -implicitDefEqProofs (maxSteps := 5000000) only [go_sem, reduceIte, reduceCtorEq, Nat.reduceEqDiff, Nat.reduceBEq, Nat.reduceAdd, Nat.reduceLeDiff, Nat.reduceMul, Nat.reduceLT, Int.reduceEq, Int.reduceLT, Int.reduceLE, t1, t2, t5, t17, t18, t19, hlt, hp0, hp0']
            refine (c_lineOpens (lastL p p.length) _).det ?_
            cases ho : opensK (lastL p p.length).kind
            · have hd : depT t p = true := (depT_iff t p).2 ⟨hok1, fun i hi => by
                have := hok2 (i + 1) hi
                unfold relOk at this
                rw [if_neg (by omega), Nat.add_sub_cancel] at this
                exact this, fun _ => by rw [← hlast]; exact ho⟩
              obtain ⟨f, hf, hnf⟩ := forest_top hd (fun hne => by
                have := hok2 0 (by omega)
                unfold relOk at this
                rw [if_pos rfl] at this
                simpa using this)
              have hat := at_top hf
              have hfs : f.size = p.length := by rw [hf, flat_len]
              have hblk := c_blockOk p cl' hp (f.size + 1) f 0 0 false (H.set b5 ⟨4, 50, [rLine (lastL p p.length)]⟩) (by omega) hat
              have e0 : ((0 + f.size : Nat) : Int) = p.length := by omega
              have e1' : ((0 : Nat) : Int) = 0 := rfl
              rw [e0, e1'] at hblk
              have hv : validB t p = okF f false false := validB_is (validP_blocks e1 h24' hf hnf)
              rw [hv]
              simp +contextual -dsimp -implicitDefEqProofs (maxSteps := 5000000) only [go_sem, reduceIte, reduceCtorEq, Nat.reduceEqDiff, Nat.reduceBEq, Nat.reduceAdd, Nat.reduceLeDiff, Nat.reduceMul, Nat.reduceLT, Int.reduceEq, Int.reduceLT, Int.reduceLE, t1, t2, t5, t17, t18, t19, hp0']
              refine hblk.det ?_
              simp +contextual -dsimp -implicitDefEqProofs (maxSteps := 5000000) only [go_sem, reduceIte, reduceCtorEq, Nat.reduceEqDiff, Nat.reduceBEq, Nat.reduceAdd, Nat.reduceLeDiff, Nat.reduceMul, Nat.reduceLT, Int.reduceEq, Int.reduceLT, Int.reduceLE]
              refine retR_less (l := [B (okF f false false)]) (H' := H) ?_ (le_set hb5) ⟨rfl, rfl⟩
              simp only [resA, go_sem, reduceIte, reduceCtorEq, Nat.reduceEqDiff, Nat.reduceBEq, Nat.reduceAdd, Nat.reduceLeDiff, Nat.reduceMul, Nat.reduceLT, Int.reduceEq, Int.reduceLT, Int.reduceLE]
            · have hv : validB t p = false := validB_false.2 fun v => by
                have := (lastI_eq (t := t) (p := p)).1 ((validP_lines t p).1 v).1
                have := ((depT_iff t p).1 this.1.1).2.2 (fun q => hp0 (by rw [q]; rfl))
                rw [← hlast, ho] at this
                cases this
              rw [hv]
              simp +contextual -dsimp -implicitDefEqProofs (maxSteps := 5000000) only [go_sem, reduceIte, reduceCtorEq, Nat.reduceEqDiff, Nat.reduceBEq, Nat.reduceAdd, Nat.reduceLeDiff, Nat.reduceMul, Nat.reduceLT, Int.reduceEq, Int.reduceLT, Int.reduceLE, t1, t2, t5, t17, t18, t19, hp0']
              refine retR_less (l := [B false]) (H' := H) ?_ (le_set hb5) ⟨rfl, rfl⟩
              simp only [resA, go_sem, reduceIte, reduceCtorEq, Nat.reduceEqDiff, Nat.reduceBEq, Nat.reduceAdd, Nat.reduceLeDiff, Nat.reduceMul, Nat.reduceLT, Int.reduceEq, Int.reduceLT, Int.reduceLE]
end
section
open Go Go.Sim
set_option maxRecDepth 100000
set_option maxHeartbeats 4000000

def rEn (e : En) : List AV := [I e.ed, I e.val]
abbrev MachS (F H : AHeap) (bm : Nat) (t : List Class) (cl : Bool) (P : List Line) (clp : Bool) (s : RS) : Prop := Mach F H bm (.vsl (t.map rClass) cl) (aProg P clp) s.log s.fs s.first
/-- Shorter lists of lines can be run. -/
def LinesOk (t : List Class) (cl : Bool) (P : List Line) (clp : Bool) (n : Nat) : Prop :=
  ∀ (f : Fo) (i : Nat) (d h : Int) (s : RS) (F H : AHeap) (bm : Nat), f.size < n → At P i d f → numsF t f d = true → FsOk t s.fs → h < s.fs.length → s.log.length + cost f ≤ 900000 → s.fs.length + cost f ≤ 900000 → MachS F H bm t cl P clp s →
    ACalls Tryz.prog 36 [.ptr bm 5 0 0, I i, I (i + f.size : Nat), I h] H fun r H' => r = .agg (rEn (runF t f i none h s).1) ∧ MachS F H' bm t cl P clp (runF t f i none h s).2
theorem c_block {t : List Class} {cl : Bool} {P : List Line} {clp : Bool} {n : Nat} (ih : LinesOk t cl P clp n) {i : Nat} {d k a b h : Int} {kids rest : Fo} {s : RS} {F H : AHeap} {bm : Nat}
    (hn : kids.size < n) (hat : At P i d (.node k a b kids rest)) (hk : numsF t kids (d + 1) = true) (hs : FsOk t s.fs) (hh : h < s.fs.length) (hl : s.log.length + cost kids ≤ 900000) (hf : s.fs.length + cost kids ≤ 900000) (hM : MachS F H bm t cl P clp s) (hp : P.length ≤ 4398046511104) :
    ACalls Tryz.prog 120 [.ptr bm 5 0 0, I i, I h] H fun r H' => r = .agg (rEn (runF t kids (i + 1) none h s).1) ∧ MachS F H' bm t cl P clp (runF t kids (i + 1) none h s).2 := by
  have hi := hat.head.1
  have hw : IntKind.i64.wrap ((i : Int) + 1) = ((i + 1 : Nat) : Int) := by rw [w64 (by omega) (by omega)]; rfl
  refine acalls_of1 Tryz.func120 rfl (by kernel_rfl) rfl rfl (awp_sound (fz := fun _ => []) (im := fun _ => false) mixed _ _ _ _ (by kernel_rfl) ?_)
  simp +contextual -dsimp -implicitDefEqProofs (maxSteps := 5000000) only [go_sem, reduceIte, reduceCtorEq, Nat.reduceEqDiff, Nat.reduceBEq, Nat.reduceAdd, Nat.reduceLeDiff, Nat.reduceMul, Nat.reduceLT, Int.reduceEq, Int.reduceLT, Int.reduceLE, hw]
  intro b6 hb6
  obtain ⟨xl, xf, H1, H2, hF, hg1, hg2, hb, rfl⟩ := id hM
  have hb6' := hb6
  rw [set_none] at hb6'
  obtain ⟨n1, n2, hn2⟩ := hb6'
  simp +contextual -dsimp -implicitDefEqProofs (maxSteps := 5000000) only [go_sem, reduceIte, reduceCtorEq, Nat.reduceEqDiff, Nat.reduceBEq, Nat.reduceAdd, Nat.reduceLeDiff, Nat.reduceMul, Nat.reduceLT, Int.reduceEq, Int.reduceLT, Int.reduceLE, hw, n1, n2]
  refine (c_endOf P clp i _ hi).det ?_
  rw [hat.endP]
  simp +contextual -dsimp -implicitDefEqProofs (maxSteps := 5000000) only [go_sem, reduceIte, reduceCtorEq, Nat.reduceEqDiff, Nat.reduceBEq, Nat.reduceAdd, Nat.reduceLeDiff, Nat.reduceMul, Nat.reduceLT, Int.reduceEq, Int.reduceLT, Int.reduceLE, hw, n1, n2]
  refine (ih kids (i + 1) (d + 1) h s _ _ bm hn hat.kids hk hs hh hl hf (mach_in (K := ⟨2, 69, [[I 0, I 0]]⟩) hM hb6)).mono ?_
  rintro _ H3 ⟨rfl, hM3⟩
  obtain ⟨H4, rfl, hM4, hn4⟩ := mach_out hM3 (mach_none hM hb6)
  simp +contextual -dsimp -implicitDefEqProofs (maxSteps := 5000000) only [go_sem, reduceIte, reduceCtorEq, Nat.reduceEqDiff, Nat.reduceBEq, Nat.reduceAdd, Nat.reduceLeDiff, Nat.reduceMul, Nat.reduceLT, Int.reduceEq, Int.reduceLT, Int.reduceLE, rEn]
  refine retR_less (l := [.agg (rEn (runF t kids (i + 1) none h s).1)]) (H' := H4) ?_ (le_set hn4) ⟨rfl, hM4⟩
  simp only [resA, go_sem, reduceIte, reduceCtorEq, Nat.reduceEqDiff, Nat.reduceBEq, Nat.reduceAdd, Nat.reduceLeDiff, Nat.reduceMul, Nat.reduceLT, Int.reduceEq, Int.reduceLT, Int.reduceLE, rEn]
end
section
open Go Go.Sim
set_option maxRecDepth 100000
set_option maxHeartbeats 4000000

theorem c_line {t : List Class} {cl : Bool} {P : List Line} {clp : Bool} {n : Nat} (ht : validT t = true) (ih : LinesOk t cl P clp n) {i : Nat} {d k a b h : Int} {kids rest : Fo} {s : RS} {F H : AHeap} {bm : Nat}
    (hn : kids.size < n) (hat : At P i d (.node k a b kids rest)) (hno : numOk t k a b = true) (hk : numsF t kids (d + 1) = true) (hs : FsOk t s.fs) (hh : h < s.fs.length) (hl : s.log.length + (2 + (if k = 12 then a.toNat * cost kids else cost kids)) ≤ 900000) (hf : s.fs.length + (2 + (if k = 12 then a.toNat * cost kids else cost kids)) ≤ 900000) (hM : MachS F H bm t cl P clp s) (hp : P.length ≤ 4398046511104) :
    ACalls Tryz.prog 80 [.ptr bm 5 0 0, I i, I h] H fun r H' => r = .agg (rEn (lineR k a b i h (fun s => runF t kids (i + 1) none h s) s).1) ∧ MachS F H' bm t cl P clp (lineR k a b i h (fun s => runF t kids (i + 1) none h s) s).2 := by
  have hi := hat.head.1
  have hx := hat.head.2
  obtain ⟨xl, xf, H1, H2, hF, hg1, hg2, hb, rfl⟩ := id hM
  refine acalls_of1 Tryz.func80 rfl (by kernel_rfl) rfl rfl (awp_sound (fz := fun r => if r = 1 then [7] else if r = 21 then [8] else if r = 29 then [9] else []) (im := fun _ => false) mixed _ _ _ _ (by kernel_rfl) ?_)
  simp +contextual -dsimp -implicitDefEqProofs (maxSteps := 5000000) only [go_sem, reduceIte, reduceCtorEq, Nat.reduceEqDiff, Nat.reduceBEq, Nat.reduceAdd, Nat.reduceLeDiff, Nat.reduceMul, Nat.reduceLT, Int.reduceEq, Int.reduceLT, Int.reduceLE, hi, hx]
  rintro b6 ⟨n1, n2, hn2⟩
  rintro b7 hb7
  refine (c_lineJumps ⟨d, k, a, b⟩ _).det ?_
  have nb6 : ∀ K, (H2.set bm K) b6 = none := fun K => by rw [set_other n1]; exact hn2
  have hF6 : F b6 = none := grow_none hg1 (grow_none hg2 hn2)
  have jump1 : s.first < 0 → jumpsK k = true → s.jump k i = ⟨s.log, s.fs, (i : Int)⟩ := fun q1 q2 => by unfold RS.jump; rw [if_pos ⟨q2, q1⟩]
  have jump0 : ¬ s.first < 0 → s.jump k i = ⟨s.log, s.fs, s.first⟩ := fun q1 => by unfold RS.jump; rw [if_neg (fun q => q1 q.2)]
  have jumpn : jumpsK k = false → s.jump k i = ⟨s.log, s.fs, s.first⟩ := fun q1 => by unfold RS.jump; rw [if_neg (fun q => by rw [q1] at q; cases q.1)]
  have hMi : ∀ v : Int, Mach F (H2.set bm ⟨5, 110, [[.vsl (t.map rClass) cl, aProg P clp, xl, xf, I v]]⟩) bm (.vsl (t.map rClass) cl) (aProg P clp) s.log s.fs v := fun v => ⟨xl, xf, H1, H2, hF, hg1, hg2, hb, rfl⟩
  have hfl : s.fs.length < 999999 := by omega
  by_cases k2 : k = 2
  · have hj : jumpsK k = true := by rw [k2]; rfl
    by_cases hf0 : s.first < 0
    · have e : lineR k a b i h (fun s => runF t kids (i + 1) none h s) s = (⟨2, s.fs.length⟩, ⟨s.log, raiseF s.fs a b h, (i : Int)⟩) := by
        unfold lineR lineS; rw [jump1 hf0 hj, if_neg (by omega), if_neg (by omega), if_neg (by omega), if_pos k2]; rfl
      rw [e]
      simp +contextual -dsimp -implicitDefEqProofs (maxSteps := 5000000) only [go_sem, reduceIte, reduceCtorEq, Nat.reduceEqDiff, Nat.reduceBEq, Nat.reduceAdd, Nat.reduceLeDiff, Nat.reduceMul, Nat.reduceLT, Int.reduceEq, Int.reduceLT, Int.reduceLE, hi, hx, n1, n2, k2, hf0, hj, show jumpsK 2 = true from rfl]
      refine (c_raise _ _ bm _ _ s.log s.fs (i : Int) a b h (mach_in (K := ⟨2, 69, [[I 0, I 0]]⟩) (hMi (i : Int)) (nb6 _)) hfl hs.ho (by omega)).mono ?_
      rintro _ H9 ⟨rfl, hM9⟩
      obtain ⟨H10, rfl, hM10, hn10⟩ := mach_out hM9 hF6
      simp +contextual -dsimp -implicitDefEqProofs (maxSteps := 5000000) only [go_sem, reduceIte, reduceCtorEq, Nat.reduceEqDiff, Nat.reduceBEq, Nat.reduceAdd, Nat.reduceLeDiff, Nat.reduceMul, Nat.reduceLT, Int.reduceEq, Int.reduceLT, Int.reduceLE, hi, hx, n1, n2, k2, hf0, hj, show jumpsK 2 = true from rfl]
      refine retR_less (l := [.agg (rEn ⟨2, s.fs.length⟩)]) (H' := H10) ?_ (le_set hn10) ⟨rfl, hM10⟩
      simp only [resA, go_sem, reduceIte, reduceCtorEq, Nat.reduceEqDiff, Nat.reduceBEq, Nat.reduceAdd, Nat.reduceLeDiff, Nat.reduceMul, Nat.reduceLT, Int.reduceEq, Int.reduceLT, Int.reduceLE, rEn]
    · have e : lineR k a b i h (fun s => runF t kids (i + 1) none h s) s = (⟨2, s.fs.length⟩, ⟨s.log, raiseF s.fs a b h, s.first⟩) := by
        unfold lineR lineS; rw [jump0 hf0, if_neg (by omega), if_neg (by omega), if_neg (by omega), if_pos k2]; rfl
      rw [e]
      simp +contextual -dsimp -implicitDefEqProofs (maxSteps := 5000000) only [go_sem, reduceIte, reduceCtorEq, Nat.reduceEqDiff, Nat.reduceBEq, Nat.reduceAdd, Nat.reduceLeDiff, Nat.reduceMul, Nat.reduceLT, Int.reduceEq, Int.reduceLT, Int.reduceLE, hi, hx, n1, n2, k2, hf0, hj, show jumpsK 2 = true from rfl]
      refine (c_raise _ _ bm _ _ s.log s.fs s.first a b h (mach_in (K := ⟨2, 69, [[I 0, I 0]]⟩) (hMi s.first) (nb6 _)) hfl hs.ho (by omega)).mono ?_
      rintro _ H9 ⟨rfl, hM9⟩
      obtain ⟨H10, rfl, hM10, hn10⟩ := mach_out hM9 hF6
      simp +contextual -dsimp -implicitDefEqProofs (maxSteps := 5000000) only [go_sem, reduceIte, reduceCtorEq, Nat.reduceEqDiff, Nat.reduceBEq, Nat.reduceAdd, Nat.reduceLeDiff, Nat.reduceMul, Nat.reduceLT, Int.reduceEq, Int.reduceLT, Int.reduceLE, hi, hx, n1, n2, k2, hf0, hj, show jumpsK 2 = true from rfl]
      refine retR_less (l := [.agg (rEn ⟨2, s.fs.length⟩)]) (H' := H10) ?_ (le_set hn10) ⟨rfl, hM10⟩
      simp only [resA, go_sem, reduceIte, reduceCtorEq, Nat.reduceEqDiff, Nat.reduceBEq, Nat.reduceAdd, Nat.reduceLeDiff, Nat.reduceMul, Nat.reduceLT, Int.reduceEq, Int.reduceLT, Int.reduceLE, rEn]
  by_cases k3 : k = 3
  · have hj : jumpsK k = true := by rw [k3]; rfl
    by_cases hf0 : s.first < 0
    · by_cases hh0 : h < 0
      · have e : lineR k a b i h (fun s => runF t kids (i + 1) none h s) s = (⟨2, s.fs.length⟩, ⟨s.log, raiseF s.fs 0 0 (-1), (i : Int)⟩) := by
          unfold lineR lineS; rw [jump1 hf0 hj, if_neg (by omega), if_neg (by omega), if_neg (by omega), if_neg (by omega), if_pos k3, if_pos hh0]; rfl
        rw [e]
        simp +contextual -dsimp -implicitDefEqProofs (maxSteps := 5000000) only [go_sem, reduceIte, reduceCtorEq, Nat.reduceEqDiff, Nat.reduceBEq, Nat.reduceAdd, Nat.reduceLeDiff, Nat.reduceMul, Nat.reduceLT, Int.reduceEq, Int.reduceLT, Int.reduceLE, hi, hx, n1, n2, k3, hf0, hj, show jumpsK 3 = true from rfl, hh0]
        refine (c_raise _ _ bm _ _ s.log s.fs (i : Int) 0 0 (-1) (mach_in (K := ⟨2, 69, [[I 0, I 0]]⟩) (hMi (i : Int)) (nb6 _)) hfl hs.ho (by omega)).mono ?_
        rintro _ H9 ⟨rfl, hM9⟩
        obtain ⟨H10, rfl, hM10, hn10⟩ := mach_out hM9 hF6
        simp +contextual -dsimp -implicitDefEqProofs (maxSteps := 5000000) only [go_sem, reduceIte, reduceCtorEq, Nat.reduceEqDiff, Nat.reduceBEq, Nat.reduceAdd, Nat.reduceLeDiff, Nat.reduceMul, Nat.reduceLT, Int.reduceEq, Int.reduceLT, Int.reduceLE, hi, hx, n1, n2, k3, hf0, hj, show jumpsK 3 = true from rfl, hh0]
        refine retR_less (l := [.agg (rEn ⟨2, s.fs.length⟩)]) (H' := H10) ?_ (le_set hn10) ⟨rfl, hM10⟩
        simp only [resA, go_sem, reduceIte, reduceCtorEq, Nat.reduceEqDiff, Nat.reduceBEq, Nat.reduceAdd, Nat.reduceLeDiff, Nat.reduceMul, Nat.reduceLT, Int.reduceEq, Int.reduceLT, Int.reduceLE, rEn]
      · have e : lineR k a b i h (fun s => runF t kids (i + 1) none h s) s = (⟨2, h⟩, ⟨s.log, s.fs, (i : Int)⟩) := by
          unfold lineR lineS; rw [jump1 hf0 hj, if_neg (by omega), if_neg (by omega), if_neg (by omega), if_neg (by omega), if_pos k3, if_neg hh0]
        rw [e]
        simp +contextual -dsimp -implicitDefEqProofs (maxSteps := 5000000) only [go_sem, reduceIte, reduceCtorEq, Nat.reduceEqDiff, Nat.reduceBEq, Nat.reduceAdd, Nat.reduceLeDiff, Nat.reduceMul, Nat.reduceLT, Int.reduceEq, Int.reduceLT, Int.reduceLE, hi, hx, n1, n2, k3, hf0, hj, show jumpsK 3 = true from rfl, hh0]
        refine retR_less (l := [.agg (rEn ⟨2, h⟩)]) (H' := H2.set bm _) ?_ (le_set (nb6 _)) ⟨rfl, hMi (i : Int)⟩
        simp only [resA, go_sem, reduceIte, reduceCtorEq, Nat.reduceEqDiff, Nat.reduceBEq, Nat.reduceAdd, Nat.reduceLeDiff, Nat.reduceMul, Nat.reduceLT, Int.reduceEq, Int.reduceLT, Int.reduceLE, rEn]
    · by_cases hh0 : h < 0
      · have e : lineR k a b i h (fun s => runF t kids (i + 1) none h s) s = (⟨2, s.fs.length⟩, ⟨s.log, raiseF s.fs 0 0 (-1), s.first⟩) := by
          unfold lineR lineS; rw [jump0 hf0, if_neg (by omega), if_neg (by omega), if_neg (by omega), if_neg (by omega), if_pos k3, if_pos hh0]; rfl
        rw [e]
        simp +contextual -dsimp -implicitDefEqProofs (maxSteps := 5000000) only [go_sem, reduceIte, reduceCtorEq, Nat.reduceEqDiff, Nat.reduceBEq, Nat.reduceAdd, Nat.reduceLeDiff, Nat.reduceMul, Nat.reduceLT, Int.reduceEq, Int.reduceLT, Int.reduceLE, hi, hx, n1, n2, k3, hf0, hj, show jumpsK 3 = true from rfl, hh0]
        refine (c_raise _ _ bm _ _ s.log s.fs s.first 0 0 (-1) (mach_in (K := ⟨2, 69, [[I 0, I 0]]⟩) (hMi s.first) (nb6 _)) hfl hs.ho (by omega)).mono ?_
        rintro _ H9 ⟨rfl, hM9⟩
        obtain ⟨H10, rfl, hM10, hn10⟩ := mach_out hM9 hF6
        simp +contextual -dsimp -implicitDefEqProofs (maxSteps := 5000000) only [go_sem, reduceIte, reduceCtorEq, Nat.reduceEqDiff, Nat.reduceBEq, Nat.reduceAdd, Nat.reduceLeDiff, Nat.reduceMul, Nat.reduceLT, Int.reduceEq, Int.reduceLT, Int.reduceLE, hi, hx, n1, n2, k3, hf0, hj, show jumpsK 3 = true from rfl, hh0]
        refine retR_less (l := [.agg (rEn ⟨2, s.fs.length⟩)]) (H' := H10) ?_ (le_set hn10) ⟨rfl, hM10⟩
        simp only [resA, go_sem, reduceIte, reduceCtorEq, Nat.reduceEqDiff, Nat.reduceBEq, Nat.reduceAdd, Nat.reduceLeDiff, Nat.reduceMul, Nat.reduceLT, Int.reduceEq, Int.reduceLT, Int.reduceLE, rEn]
      · have e : lineR k a b i h (fun s => runF t kids (i + 1) none h s) s = (⟨2, h⟩, ⟨s.log, s.fs, s.first⟩) := by
          unfold lineR lineS; rw [jump0 hf0, if_neg (by omega), if_neg (by omega), if_neg (by omega), if_neg (by omega), if_pos k3, if_neg hh0]
        rw [e]
        simp +contextual -dsimp -implicitDefEqProofs (maxSteps := 5000000) only [go_sem, reduceIte, reduceCtorEq, Nat.reduceEqDiff, Nat.reduceBEq, Nat.reduceAdd, Nat.reduceLeDiff, Nat.reduceMul, Nat.reduceLT, Int.reduceEq, Int.reduceLT, Int.reduceLE, hi, hx, n1, n2, k3, hf0, hj, show jumpsK 3 = true from rfl, hh0]
        refine retR_less (l := [.agg (rEn ⟨2, h⟩)]) (H' := H2.set bm _) ?_ (le_set (nb6 _)) ⟨rfl, hMi s.first⟩
        simp only [resA, go_sem, reduceIte, reduceCtorEq, Nat.reduceEqDiff, Nat.reduceBEq, Nat.reduceAdd, Nat.reduceLeDiff, Nat.reduceMul, Nat.reduceLT, Int.reduceEq, Int.reduceLT, Int.reduceLE, rEn]
  by_cases k4 : k = 4
  · have hj : jumpsK k = true := by rw [k4]; rfl
    by_cases hf0 : s.first < 0
    · have e : lineR k a b i h (fun s => runF t kids (i + 1) none h s) s = (⟨1, a⟩, ⟨s.log, s.fs, (i : Int)⟩) := by
        unfold lineR lineS; rw [jump1 hf0 hj, if_neg (by omega), if_neg (by omega), if_neg (by omega), if_neg (by omega), if_neg (by omega), if_pos k4]
      rw [e]
      simp +contextual -dsimp -implicitDefEqProofs (maxSteps := 5000000) only [go_sem, reduceIte, reduceCtorEq, Nat.reduceEqDiff, Nat.reduceBEq, Nat.reduceAdd, Nat.reduceLeDiff, Nat.reduceMul, Nat.reduceLT, Int.reduceEq, Int.reduceLT, Int.reduceLE, hi, hx, n1, n2, k4, hf0, hj, show jumpsK 4 = true from rfl]
      refine retR_less (l := [.agg (rEn ⟨1, a⟩)]) (H' := H2.set bm _) ?_ (le_set (nb6 _)) ⟨rfl, hMi (i : Int)⟩
      simp only [resA, go_sem, reduceIte, reduceCtorEq, Nat.reduceEqDiff, Nat.reduceBEq, Nat.reduceAdd, Nat.reduceLeDiff, Nat.reduceMul, Nat.reduceLT, Int.reduceEq, Int.reduceLT, Int.reduceLE, rEn]
    · have e : lineR k a b i h (fun s => runF t kids (i + 1) none h s) s = (⟨1, a⟩, ⟨s.log, s.fs, s.first⟩) := by
        unfold lineR lineS; rw [jump0 hf0, if_neg (by omega), if_neg (by omega), if_neg (by omega), if_neg (by omega), if_neg (by omega), if_pos k4]
      rw [e]
      simp +contextual -dsimp -implicitDefEqProofs (maxSteps := 5000000) only [go_sem, reduceIte, reduceCtorEq, Nat.reduceEqDiff, Nat.reduceBEq, Nat.reduceAdd, Nat.reduceLeDiff, Nat.reduceMul, Nat.reduceLT, Int.reduceEq, Int.reduceLT, Int.reduceLE, hi, hx, n1, n2, k4, hf0, hj, show jumpsK 4 = true from rfl]
      refine retR_less (l := [.agg (rEn ⟨1, a⟩)]) (H' := H2.set bm _) ?_ (le_set (nb6 _)) ⟨rfl, hMi s.first⟩
      simp only [resA, go_sem, reduceIte, reduceCtorEq, Nat.reduceEqDiff, Nat.reduceBEq, Nat.reduceAdd, Nat.reduceLeDiff, Nat.reduceMul, Nat.reduceLT, Int.reduceEq, Int.reduceLT, Int.reduceLE, rEn]
  by_cases k5 : k = 5
  · have hj : jumpsK k = true := by rw [k5]; rfl
    by_cases hf0 : s.first < 0
    · have e : lineR k a b i h (fun s => runF t kids (i + 1) none h s) s = (⟨3, 0⟩, ⟨s.log, s.fs, (i : Int)⟩) := by
        unfold lineR lineS; rw [jump1 hf0 hj, if_neg (by omega), if_neg (by omega), if_neg (by omega), if_neg (by omega), if_neg (by omega), if_neg (by omega), if_pos k5]
      rw [e]
      simp +contextual -dsimp -implicitDefEqProofs (maxSteps := 5000000) only [go_sem, reduceIte, reduceCtorEq, Nat.reduceEqDiff, Nat.reduceBEq, Nat.reduceAdd, Nat.reduceLeDiff, Nat.reduceMul, Nat.reduceLT, Int.reduceEq, Int.reduceLT, Int.reduceLE, hi, hx, n1, n2, k5, hf0, hj, show jumpsK 5 = true from rfl]
      refine retR_less (l := [.agg (rEn ⟨3, 0⟩)]) (H' := H2.set bm _) ?_ (le_set (nb6 _)) ⟨rfl, hMi (i : Int)⟩
      simp only [resA, go_sem, reduceIte, reduceCtorEq, Nat.reduceEqDiff, Nat.reduceBEq, Nat.reduceAdd, Nat.reduceLeDiff, Nat.reduceMul, Nat.reduceLT, Int.reduceEq, Int.reduceLT, Int.reduceLE, rEn]
    · have e : lineR k a b i h (fun s => runF t kids (i + 1) none h s) s = (⟨3, 0⟩, ⟨s.log, s.fs, s.first⟩) := by
        unfold lineR lineS; rw [jump0 hf0, if_neg (by omega), if_neg (by omega), if_neg (by omega), if_neg (by omega), if_neg (by omega), if_neg (by omega), if_pos k5]
      rw [e]
      simp +contextual -dsimp -implicitDefEqProofs (maxSteps := 5000000) only [go_sem, reduceIte, reduceCtorEq, Nat.reduceEqDiff, Nat.reduceBEq, Nat.reduceAdd, Nat.reduceLeDiff, Nat.reduceMul, Nat.reduceLT, Int.reduceEq, Int.reduceLT, Int.reduceLE, hi, hx, n1, n2, k5, hf0, hj, show jumpsK 5 = true from rfl]
      refine retR_less (l := [.agg (rEn ⟨3, 0⟩)]) (H' := H2.set bm _) ?_ (le_set (nb6 _)) ⟨rfl, hMi s.first⟩
      simp only [resA, go_sem, reduceIte, reduceCtorEq, Nat.reduceEqDiff, Nat.reduceBEq, Nat.reduceAdd, Nat.reduceLeDiff, Nat.reduceMul, Nat.reduceLT, Int.reduceEq, Int.reduceLT, Int.reduceLE, rEn]
  by_cases k6 : k = 6
  · have hj : jumpsK k = true := by rw [k6]; rfl
    by_cases hf0 : s.first < 0
    · have e : lineR k a b i h (fun s => runF t kids (i + 1) none h s) s = (⟨4, 0⟩, ⟨s.log, s.fs, (i : Int)⟩) := by
        unfold lineR lineS; rw [jump1 hf0 hj, if_neg (by omega), if_neg (by omega), if_neg (by omega), if_neg (by omega), if_neg (by omega), if_neg (by omega), if_neg (by omega), if_pos k6]
      rw [e]
      simp +contextual -dsimp -implicitDefEqProofs (maxSteps := 5000000) only [go_sem, reduceIte, reduceCtorEq, Nat.reduceEqDiff, Nat.reduceBEq, Nat.reduceAdd, Nat.reduceLeDiff, Nat.reduceMul, Nat.reduceLT, Int.reduceEq, Int.reduceLT, Int.reduceLE, hi, hx, n1, n2, k6, hf0, hj, show jumpsK 6 = true from rfl]
      refine retR_less (l := [.agg (rEn ⟨4, 0⟩)]) (H' := H2.set bm _) ?_ (le_set (nb6 _)) ⟨rfl, hMi (i : Int)⟩
      simp only [resA, go_sem, reduceIte, reduceCtorEq, Nat.reduceEqDiff, Nat.reduceBEq, Nat.reduceAdd, Nat.reduceLeDiff, Nat.reduceMul, Nat.reduceLT, Int.reduceEq, Int.reduceLT, Int.reduceLE, rEn]
    · have e : lineR k a b i h (fun s => runF t kids (i + 1) none h s) s = (⟨4, 0⟩, ⟨s.log, s.fs, s.first⟩) := by
        unfold lineR lineS; rw [jump0 hf0, if_neg (by omega), if_neg (by omega), if_neg (by omega), if_neg (by omega), if_neg (by omega), if_neg (by omega), if_neg (by omega), if_pos k6]
      rw [e]
      simp +contextual -dsimp -implicitDefEqProofs (maxSteps := 5000000) only [go_sem, reduceIte, reduceCtorEq, Nat.reduceEqDiff, Nat.reduceBEq, Nat.reduceAdd, Nat.reduceLeDiff, Nat.reduceMul, Nat.reduceLT, Int.reduceEq, Int.reduceLT, Int.reduceLE, hi, hx, n1, n2, k6, hf0, hj, show jumpsK 6 = true from rfl]
      refine retR_less (l := [.agg (rEn ⟨4, 0⟩)]) (H' := H2.set bm _) ?_ (le_set (nb6 _)) ⟨rfl, hMi s.first⟩
      simp only [resA, go_sem, reduceIte, reduceCtorEq, Nat.reduceEqDiff, Nat.reduceBEq, Nat.reduceAdd, Nat.reduceLeDiff, Nat.reduceMul, Nat.reduceLT, Int.reduceEq, Int.reduceLT, Int.reduceLE, rEn]
  have hj : jumpsK k = false := by
    simp only [jumpsK, inR, Bool.and_eq_false_iff, decide_eq_false_iff_not]; omega
  by_cases k1 : k = 1
  · have e : lineR k a b i h (fun s => runF t kids (i + 1) none h s) s = (.next, ⟨s.log ++ [a], s.fs, s.first⟩) := by
      unfold lineR lineS; rw [jumpn hj, if_neg (by omega), if_neg (by omega), if_pos k1]; rfl
    rw [e]
    simp +contextual -dsimp -implicitDefEqProofs (maxSteps := 5000000) only [go_sem, reduceIte, reduceCtorEq, Nat.reduceEqDiff, Nat.reduceBEq, Nat.reduceAdd, Nat.reduceLeDiff, Nat.reduceMul, Nat.reduceLT, Int.reduceEq, Int.reduceLT, Int.reduceLE, hi, hx, n1, n2, k1, show jumpsK 1 = false from rfl]
    refine draw_intro [0, 0, 0, 0, 0, 0, 0, 0, 2, 0, 0, 2] AHeap.none (by kernel_rfl) none_le ?_
    simp +contextual -dsimp -implicitDefEqProofs (maxSteps := 5000000) only [go_sem, reduceIte, reduceCtorEq, Nat.reduceEqDiff, Nat.reduceBEq, Nat.reduceAdd, Nat.reduceLeDiff, Nat.reduceMul, Nat.reduceLT, Int.reduceEq, Int.reduceLT, Int.reduceLE, hi, hx, n1, n2, k1]
    refine mach_app1 hg1 hg2 hb n1 hn2 (by omega) fun x2 G G1 y1 y2 y3 y4 y5 => ?_
    obtain ⟨r1, r2⟩ := y5
    simp +contextual -dsimp -implicitDefEqProofs (maxSteps := 5000000) only [go_sem, reduceIte, reduceCtorEq, Nat.reduceEqDiff, Nat.reduceBEq, Nat.reduceAdd, Nat.reduceLeDiff, Nat.reduceMul, Nat.reduceLT, Int.reduceEq, Int.reduceLT, Int.reduceLE, n1, n2, r1, r2]
    refine retR_less (l := [.agg (rEn .next)]) (H' := G.set bm _) ?_ (le_set (by rw [set_other n1]; exact y4)) ⟨rfl, ⟨x2, xf, G1, G, hF, y1, y2, y3, rfl⟩⟩
    simp only [resA, go_sem, reduceIte, reduceCtorEq, Nat.reduceEqDiff, Nat.reduceBEq, Nat.reduceAdd, Nat.reduceLeDiff, Nat.reduceMul, Nat.reduceLT, Int.reduceEq, Int.reduceLT, Int.reduceLE, rEn, En.next]
  by_cases k11 : k = 11
  · simp +contextual -dsimp -implicitDefEqProofs (maxSteps := 5000000) only [go_sem, reduceIte, reduceCtorEq, Nat.reduceEqDiff, Nat.reduceBEq, Nat.reduceAdd, Nat.reduceLeDiff, Nat.reduceMul, Nat.reduceLT, Int.reduceEq, Int.reduceLT, Int.reduceLE, hi, hx, n1, n2, k11, show jumpsK 11 = false from rfl]
    refine draw_intro [0, 0, 0, 0, 0, 0, 0, 0, 0, 2, 0, 0, 2] AHeap.none (by kernel_rfl) none_le ?_
    have ha := hno
    unfold numOk at ha
    rw [if_neg (by omega), if_neg (by omega), if_neg (by omega), if_pos k11, Bool.and_eq_true] at ha
    simp only [inR, Bool.and_eq_true, decide_eq_true_eq] at ha
    rw [if_neg (by omega)] at hl hf
    have hw1 : IntKind.i64.wrap (100 + a) = 100 + a := w64 (by omega) (by omega)
    have hw2 : IntKind.i64.wrap (200 + a) = 200 + a := w64 (by omega) (by omega)
    simp +contextual -dsimp -implicitDefEqProofs (maxSteps := 5000000) only [go_sem, reduceIte, reduceCtorEq, Nat.reduceEqDiff, Nat.reduceBEq, Nat.reduceAdd, Nat.reduceLeDiff, Nat.reduceMul, Nat.reduceLT, Int.reduceEq, Int.reduceLT, Int.reduceLE, hi, hx, n1, n2, k11, hw1]
    refine mach_app1 hg1 hg2 hb n1 hn2 (by omega) fun x2 G G1 y1 y2 y3 y4 y5 => ?_
    obtain ⟨r1, r2⟩ := y5
    simp +contextual -dsimp -implicitDefEqProofs (maxSteps := 5000000) only [go_sem, reduceIte, reduceCtorEq, Nat.reduceEqDiff, Nat.reduceBEq, Nat.reduceAdd, Nat.reduceLeDiff, Nat.reduceMul, Nat.reduceLT, Int.reduceEq, Int.reduceLT, Int.reduceLE, n1, n2, r1, r2]
    have hMt : MachS F (G.set bm ⟨5, 110, [[.vsl (t.map rClass) cl, aProg P clp, x2, xf, I s.first]]⟩) bm t cl P clp (s.tell (100 + a)) := ⟨x2, xf, G1, G, hF, y1, y2, y3, rfl⟩
    have hGb6 : (G.set bm ⟨5, 110, [[.vsl (t.map rClass) cl, aProg P clp, x2, xf, I s.first]]⟩) b6 = none := by rw [set_other n1]; exact y4
    have tl : (s.tell (100 + a)).log.length = s.log.length + 1 := by simp [RS.tell]
    have hgo := goes_run ht kids (i + 1) none (d + 1) h (s.tell (100 + a)) hk hs hh trivial
    have hgl := hgo.len
    refine (c_block ih hn hat hk (s := s.tell (100 + a)) hs hh (by rw [tl]; omega) (by show s.fs.length + _ ≤ _; omega) (mach_in (K := ⟨2, 69, [[I 0, I 0]]⟩) hMt hGb6) hp).mono ?_
    rintro _ H3 ⟨rfl, hM3⟩
    have e : lineR k a b i h (fun s => runF t kids (i + 1) none h s) s = withS a b (runF t kids (i + 1) none h (s.tell (100 + a))) := by
      unfold lineR; rw [if_pos k11]
    rw [e]
    generalize runF t kids (i + 1) none h (s.tell (100 + a)) = r at hM3 hgo hgl ⊢
    obtain ⟨H4, rfl, hM4, hn4⟩ := mach_out hM3 hF6
    obtain ⟨xl', xf', G2, G3, hF', hg1', hg2', hb', rfl⟩ := id hM4
    have hn5 := hn4
    rw [set_none] at hn5
    have hn6 := hn5.2.2
    simp +contextual -dsimp -implicitDefEqProofs (maxSteps := 5000000) only [go_sem, reduceIte, reduceCtorEq, Nat.reduceEqDiff, Nat.reduceBEq, Nat.reduceAdd, Nat.reduceLeDiff, Nat.reduceMul, Nat.reduceLT, Int.reduceEq, Int.reduceLT, Int.reduceLE, rEn, n1, n2, hi, hx]
    rintro b8 hb8
    refine draw_intro [0, 0, 0, 0, 0, 0, 0, 0, 0, 2, 0, 0, 2] AHeap.none (by kernel_rfl) none_le ?_
    simp +contextual -dsimp -implicitDefEqProofs (maxSteps := 5000000) only [go_sem, reduceIte, reduceCtorEq, Nat.reduceEqDiff, Nat.reduceBEq, Nat.reduceAdd, Nat.reduceLeDiff, Nat.reduceMul, Nat.reduceLT, Int.reduceEq, Int.reduceLT, Int.reduceLE, rEn, n1, n2, hi, hx, hw2]
    refine mach_app1 hg1' hg2' hb' n1 hn6 (by omega) fun x3 G4 G5 z1 z2 z3 z4 z5 => ?_
    obtain ⟨q1, q2⟩ := z5
    simp +contextual -dsimp -implicitDefEqProofs (maxSteps := 5000000) only [go_sem, reduceIte, reduceCtorEq, Nat.reduceEqDiff, Nat.reduceBEq, Nat.reduceAdd, Nat.reduceLeDiff, Nat.reduceMul, Nat.reduceLT, Int.reduceEq, Int.reduceLT, Int.reduceLE, n1, n2, q1, q2]
    have hMf : MachS F (G4.set bm ⟨5, 110, [[.vsl (t.map rClass) cl, aProg P clp, x3, xf', I r.2.first]]⟩) bm t cl P clp (r.2.tell (200 + a)) := ⟨x3, xf', G5, G4, hF', z1, z2, z3, rfl⟩
    unfold withS
    have hGf : (G4.set bm ⟨5, 110, [[.vsl (t.map rClass) cl, aProg P clp, x3, xf', I r.2.first]]⟩) b6 = none := by rw [set_other n1]; exact z4
    by_cases hc : r.1.ed = 2 ∧ b = 1
    · rw [if_pos hc]
      simp +contextual -dsimp -implicitDefEqProofs (maxSteps := 5000000) only [go_sem, reduceIte, reduceCtorEq, Nat.reduceEqDiff, Nat.reduceBEq, Nat.reduceAdd, Nat.reduceLeDiff, Nat.reduceMul, Nat.reduceLT, Int.reduceEq, Int.reduceLT, Int.reduceLE, n1, n2, q1, q2, hc.1, hc.2]
      refine retR_less (l := [.agg (rEn .next)]) (H' := G4.set bm _) ?_ (le_set hGf) ⟨rfl, hMf⟩
      simp only [resA, go_sem, reduceIte, reduceCtorEq, Nat.reduceEqDiff, Nat.reduceBEq, Nat.reduceAdd, Nat.reduceLeDiff, Nat.reduceMul, Nat.reduceLT, Int.reduceEq, Int.reduceLT, Int.reduceLE, rEn, En.next]
    · rw [if_neg hc]
      by_cases hc1 : r.1.ed = 2
      · have hc2 : ¬ b = 1 := fun q => hc ⟨hc1, q⟩
        simp +contextual -dsimp -implicitDefEqProofs (maxSteps := 5000000) only [go_sem, reduceIte, reduceCtorEq, Nat.reduceEqDiff, Nat.reduceBEq, Nat.reduceAdd, Nat.reduceLeDiff, Nat.reduceMul, Nat.reduceLT, Int.reduceEq, Int.reduceLT, Int.reduceLE, n1, n2, q1, q2, hc1, hc2]
        refine retR_less (l := [.agg (rEn r.1)]) (H' := G4.set bm _) ?_ (le_set hGf) ⟨rfl, hMf⟩
        simp only [resA, go_sem, reduceIte, reduceCtorEq, Nat.reduceEqDiff, Nat.reduceBEq, Nat.reduceAdd, Nat.reduceLeDiff, Nat.reduceMul, Nat.reduceLT, Int.reduceEq, Int.reduceLT, Int.reduceLE, rEn, hc1]
      · simp +contextual -dsimp -implicitDefEqProofs (maxSteps := 5000000) only [go_sem, reduceIte, reduceCtorEq, Nat.reduceEqDiff, Nat.reduceBEq, Nat.reduceAdd, Nat.reduceLeDiff, Nat.reduceMul, Nat.reduceLT, Int.reduceEq, Int.reduceLT, Int.reduceLE, n1, n2, q1, q2, hc1]
        refine retR_less (l := [.agg (rEn r.1)]) (H' := G4.set bm _) ?_ (le_set hGf) ⟨rfl, hMf⟩
        simp only [resA, go_sem, reduceIte, reduceCtorEq, Nat.reduceEqDiff, Nat.reduceBEq, Nat.reduceAdd, Nat.reduceLeDiff, Nat.reduceMul, Nat.reduceLT, Int.reduceEq, Int.reduceLT, Int.reduceLE, rEn]
  by_cases k12 : k = 12
  · have ha := hno
    unfold numOk at ha
    rw [if_neg (by omega), if_neg (by omega), if_neg (by omega), if_neg (by omega), if_pos k12, Bool.and_eq_true] at ha
    simp only [inR, Bool.and_eq_true, decide_eq_true_eq] at ha
    rw [if_pos k12] at hl hf
    have e : lineR k a b i h (fun s => runF t kids (i + 1) none h s) s = loopS (fun s => runF t kids (i + 1) none h s) a.toNat s := by
      unfold lineR; rw [if_neg (by omega), if_pos k12]
    rw [e]
    simp +contextual -dsimp -implicitDefEqProofs (maxSteps := 5000000) only [go_sem, reduceIte, reduceCtorEq, Nat.reduceEqDiff, Nat.reduceBEq, Nat.reduceAdd, Nat.reduceLeDiff, Nat.reduceMul, Nat.reduceLT, Int.reduceEq, Int.reduceLT, Int.reduceLE, hi, hx, n1, n2, k12, show jumpsK 12 = false from rfl]
    refine aloop mixed (fz := fun r => if r = 1 then [7] else if r = 21 then [8] else if r = 29 then [9] else []) (im := fun _ => false) (by kernel_rfl) (fun m tm H' => ∃ (s' : RS) (H'' : AHeap), m ≤ a.toNat ∧ H' = H''.set b6 ⟨2, 69, [[I 0, I 0]]⟩ ∧ H'' b6 = none ∧ MachS F H'' bm t cl P clp s' ∧ FsOk t s'.fs ∧ s.fs.length ≤ s'.fs.length ∧ s'.fs.length ≤ s.fs.length + (a.toNat - m) * cost kids ∧ s'.log.length ≤ s.log.length + (a.toNat - m) * cost kids ∧ loopS (fun s => runF t kids (i + 1) none h s) a.toNat s = loopS (fun s => runF t kids (i + 1) none h s) m s' ∧ tm 0 = .ptr bm 5 0 0 ∧ tm 1 = I i ∧ tm 2 = I h ∧ tm 6 = .ptr b6 2 0 0 ∧ tm 117 = I a ∧ tm 118 = I (a.toNat - m : Nat)) a.toNat ⟨s, H2.set bm _, Nat.le_refl _, rfl, nb6 _, hM, hs, Nat.le_refl _, by omega, by omega, rfl, ?_⟩ ?_
    · simp +contextual -dsimp -implicitDefEqProofs (maxSteps := 5000000) only [go_sem, reduceIte, reduceCtorEq, Nat.reduceEqDiff, Nat.reduceBEq, Nat.reduceAdd, Nat.reduceLeDiff, Nat.reduceMul, Nat.reduceLT, Int.reduceEq, Int.reduceLT, Int.reduceLE, n1, n2]
      rw [Nat.sub_self]; rfl
    · rintro m tm _ ⟨s', H'', hm, rfl, hb6, hM', hs', g1, g2, g3, he, t0, t1, t2, t6, t117, t118⟩
      cases m with
      | zero =>
        have z : ¬ ((a.toNat - 0 : Nat) : Int) < a := by omega
        simp +contextual -dsimp -implicitDefEqProofs (maxSteps := 5000000) only [go_sem, reduceIte, reduceCtorEq, Nat.reduceEqDiff, Nat.reduceBEq, Nat.reduceAdd, Nat.reduceLeDiff, Nat.reduceMul, Nat.reduceLT, Int.reduceEq, Int.reduceLT, Int.reduceLE, n1, n2, t0, t1, t2, t6, t117, t118, z]
        rw [he]
        refine retR_less (l := [.agg (rEn .next)]) (H' := H'') ?_ (le_set hb6) ⟨rfl, hM'⟩
        simp only [resA, go_sem, reduceIte, reduceCtorEq, Nat.reduceEqDiff, Nat.reduceBEq, Nat.reduceAdd, Nat.reduceLeDiff, Nat.reduceMul, Nat.reduceLT, Int.reduceEq, Int.reduceLT, Int.reduceLE, rEn, En.next, t6]
      | succ m =>
        have z : ((a.toNat - (m + 1) : Nat) : Int) < a := by omega
        have w1 : (a.toNat - (m + 1)) * cost kids + cost kids ≤ a.toNat * cost kids := by
          rw [← Nat.succ_mul]; exact Nat.mul_le_mul_right _ (by omega)
        have w2 : (a.toNat - m) * cost kids = (a.toNat - (m + 1)) * cost kids + cost kids := by
          rw [← Nat.succ_mul]; congr 1; omega
        simp +contextual -dsimp -implicitDefEqProofs (maxSteps := 5000000) only [go_sem, reduceIte, reduceCtorEq, Nat.reduceEqDiff, Nat.reduceBEq, Nat.reduceAdd, Nat.reduceLeDiff, Nat.reduceMul, Nat.reduceLT, Int.reduceEq, Int.reduceLT, Int.reduceLE, n1, n2, t0, t1, t2, t6, t117, t118, z]
        have hgo := goes_run ht kids (i + 1) none (d + 1) h s' hk hs' (by omega) trivial
        have hgl := hgo.len
        refine (c_block ih hn hat hk (s := s') hs' (by omega) (by omega) (by omega) (mach_in (K := ⟨2, 69, [[I 0, I 0]]⟩) hM' hb6) hp).mono ?_
        rintro _ H3 ⟨rfl, hM3⟩
        simp only [loopS] at he
        generalize runF t kids (i + 1) none h s' = r at hM3 hgo hgl he ⊢
        obtain ⟨H4, rfl, hM4, hn4⟩ := mach_out hM3 hF6
        by_cases c1 : r.1.ed = 1
        · rw [if_pos (.inl c1)] at he
          simp +contextual -dsimp -implicitDefEqProofs (maxSteps := 5000000) only [go_sem, reduceIte, reduceCtorEq, Nat.reduceEqDiff, Nat.reduceBEq, Nat.reduceAdd, Nat.reduceLeDiff, Nat.reduceMul, Nat.reduceLT, Int.reduceEq, Int.reduceLT, Int.reduceLE, rEn, n1, n2, t0, t1, t2, t6, t117, t118, c1]
          rintro b9 hb9
          rw [he]
          refine retR_less (l := [.agg (rEn r.1)]) (H' := H4) ?_ (le_set hn4) ⟨rfl, hM4⟩
          simp only [resA, go_sem, reduceIte, reduceCtorEq, Nat.reduceEqDiff, Nat.reduceBEq, Nat.reduceAdd, Nat.reduceLeDiff, Nat.reduceMul, Nat.reduceLT, Int.reduceEq, Int.reduceLT, Int.reduceLE, rEn, c1, t6]
        by_cases c2 : r.1.ed = 2
        · rw [if_pos (.inr c2)] at he
          simp +contextual -dsimp -implicitDefEqProofs (maxSteps := 5000000) only [go_sem, reduceIte, reduceCtorEq, Nat.reduceEqDiff, Nat.reduceBEq, Nat.reduceAdd, Nat.reduceLeDiff, Nat.reduceMul, Nat.reduceLT, Int.reduceEq, Int.reduceLT, Int.reduceLE, rEn, n1, n2, t0, t1, t2, t6, t117, t118, c2]
          rintro b9 hb9
          rw [he]
          refine retR_less (l := [.agg (rEn r.1)]) (H' := H4) ?_ (le_set hn4) ⟨rfl, hM4⟩
          simp only [resA, go_sem, reduceIte, reduceCtorEq, Nat.reduceEqDiff, Nat.reduceBEq, Nat.reduceAdd, Nat.reduceLeDiff, Nat.reduceMul, Nat.reduceLT, Int.reduceEq, Int.reduceLT, Int.reduceLE, rEn, c2, t6]
        rw [if_neg (fun q => q.elim c1 c2)] at he
        by_cases c3 : r.1.ed = 3
        · rw [if_pos c3] at he
          simp +contextual -dsimp -implicitDefEqProofs (maxSteps := 5000000) only [go_sem, reduceIte, reduceCtorEq, Nat.reduceEqDiff, Nat.reduceBEq, Nat.reduceAdd, Nat.reduceLeDiff, Nat.reduceMul, Nat.reduceLT, Int.reduceEq, Int.reduceLT, Int.reduceLE, rEn, n1, n2, t0, t1, t2, t6, t117, t118, c3]
          rintro b9 hb9
          rw [he]
          refine retR_less (l := [.agg (rEn .next)]) (H' := H4) ?_ (le_set hn4) ⟨rfl, hM4⟩
          simp only [resA, go_sem, reduceIte, reduceCtorEq, Nat.reduceEqDiff, Nat.reduceBEq, Nat.reduceAdd, Nat.reduceLeDiff, Nat.reduceMul, Nat.reduceLT, Int.reduceEq, Int.reduceLT, Int.reduceLE, rEn, En.next, t6]
        · rw [if_neg c3] at he
          simp +contextual -dsimp -implicitDefEqProofs (maxSteps := 5000000) only [go_sem, reduceIte, reduceCtorEq, Nat.reduceEqDiff, Nat.reduceBEq, Nat.reduceAdd, Nat.reduceLeDiff, Nat.reduceMul, Nat.reduceLT, Int.reduceEq, Int.reduceLT, Int.reduceLE, rEn, n1, n2, t0, t1, t2, t6, t117, t118, c1, c2, c3]
          rintro b9 hb9
          exact ⟨m, by omega, r.2, H4, by omega, rfl, hn4, hM4, hgo.ok, by omega, by omega, by omega, he, I_wrap (by omega) (by omega) (by omega)⟩
  · have e : lineR k a b i h (fun s => runF t kids (i + 1) none h s) s = (.next, ⟨s.log, s.fs, s.first⟩) := by
      unfold lineR lineS; rw [jumpn hj, if_neg k11, if_neg k12, if_neg k1, if_neg k2, if_neg k3, if_neg k4, if_neg k5, if_neg k6]
    rw [e]
    simp +contextual -dsimp -implicitDefEqProofs (maxSteps := 5000000) only [go_sem, reduceIte, reduceCtorEq, Nat.reduceEqDiff, Nat.reduceBEq, Nat.reduceAdd, Nat.reduceLeDiff, Nat.reduceMul, Nat.reduceLT, Int.reduceEq, Int.reduceLT, Int.reduceLE, hi, hx, n1, n2, k1, k2, k3, k4, k5, k6, k11, k12, hj]
    refine retR_less (l := [.agg (rEn .next)]) (H' := H2.set bm _) ?_ (le_set (nb6 _)) ⟨rfl, hMi s.first⟩
    simp only [resA, go_sem, reduceIte, reduceCtorEq, Nat.reduceEqDiff, Nat.reduceBEq, Nat.reduceAdd, Nat.reduceLeDiff, Nat.reduceMul, Nat.reduceLT, Int.reduceEq, Int.reduceLT, Int.reduceLE, rEn, En.next]
end
end
end Go.Proofs.YtckipeopgimenaaGreat
