/- Walks and plain laws that the claims of this seat lean on. No condition. -/
import Derived.Test.YtjpfgafdjlkblaaGreatJ4
import Derived.Test.YtjpfgafdjlkblaaGreatJ1
import Derived.Test.YtjpfgafdjlkblaaGreatSimZ
import Derived.Test.YtjpfgafdjlkblaaGreatGrow
set_option linter.unusedVariables false
set_option linter.unusedSimpArgs false
namespace Go.Proofs.YtjpfgafdjlkblaaGreat
open Go Go.Sim
section
open Go Go.Sim
set_option maxRecDepth 100000

def dp (p : List Line) (m : Nat) : Int := (p.getD m default).depth
def kd (p : List Line) (m : Nat) : Int := (p.getD m default).kind
theorem dp_head {p : List Line} {i : Nat} {d k a b : Int} {kids rest : Fo} (h : At p i d (.node k a b kids rest)) : dp p i = d ∧ kd p i = k ∧ (p.getD i default).a = a ∧ (p.getD i default).b = b ∧ i < p.length := by
  obtain ⟨h1, h2⟩ := h.head
  unfold dp kd
  rw [h2]
  exact ⟨rfl, rfl, rfl, rfl, h1⟩
theorem dp_kids {p : List Line} {i : Nat} {d k a b : Int} {kids rest : Fo} (h : At p i d (.node k a b kids rest)) : ∀ m, i < m → m < i + 1 + kids.size → d < dp p m := fun m h1 h2 => by
  have := h.kids.deep (j := m) (by omega) (by omega)
  show d < (p.getD m default).depth
  omega

/-! ### What encloses a line -/
/-- The lines in whose blocks a line of a depth is, the innermost one first. -/
def enD (p : List Line) : Int → Nat → List Nat
  | _, 0 => []
  | d, k + 1 => if dp p k < d then k :: enD p (dp p k) k else enD p d k
theorem enD_skip {p : List Line} {d : Int} {i : Nat} : ∀ n, (∀ m, i ≤ m → m < i + n → d ≤ dp p m) → enD p d (i + n) = enD p d i
  | 0, _ => rfl
  | n + 1, h => by
    have := h (i + n) (by omega) (by omega)
    show enD p d (i + n + 1) = _
    simp only [enD]
    rw [if_neg (by omega)]
    exact enD_skip n fun m h1 h2 => h m h1 (by omega)
theorem en_kids {p : List Line} {i : Nat} {d k a b : Int} {kids rest : Fo} (h : At p i d (.node k a b kids rest)) : enD p (d + 1) (i + 1) = i :: enD p d i := by
  simp only [enD]
  rw [(dp_head h).1, if_pos (by omega)]
theorem en_rest {p : List Line} {i : Nat} {d k a b : Int} {kids rest : Fo} (h : At p i d (.node k a b kids rest)) : enD p d (i + 1 + kids.size) = enD p d i := by
  rw [show i + 1 + kids.size = i + (1 + kids.size) by omega]
  refine enD_skip _ fun m h1 h2 => ?_
  by_cases e : m = i
  · subst e; rw [(dp_head h).1]; exact Int.le_refl _
  · have := dp_kids h m (by omega) (by omega); omega
/-! ### What is behind jumps -/
/-- A line of a depth is behind a jump of its block. -/
def bjD (p : List Line) (d : Int) : Nat → Bool
  | 0 => false
  | k + 1 => if dp p k < d then false else if dp p k = d ∧ jumpsK (kd p k) = true then true else bjD p d k
theorem bj_skip {p : List Line} {d : Int} {i : Nat} : ∀ n, (∀ m, i ≤ m → m < i + n → d < dp p m) → bjD p d (i + n) = bjD p d i
  | 0, _ => rfl
  | n + 1, h => by
    have := h (i + n) (by omega) (by omega)
    show bjD p d (i + n + 1) = _
    simp only [bjD]
    rw [if_neg (by omega), if_neg (fun q => by omega)]
    exact bj_skip n fun m h1 h2 => h m h1 (by omega)
theorem bj_kids {p : List Line} {i : Nat} {d k a b : Int} {kids rest : Fo} (h : At p i d (.node k a b kids rest)) : bjD p (d + 1) (i + 1) = false := by
  simp only [bjD]
  rw [(dp_head h).1, if_pos (by omega)]
theorem bj_rest {p : List Line} {i : Nat} {d k a b : Int} {kids rest : Fo} (h : At p i d (.node k a b kids rest)) : bjD p d (i + 1 + kids.size) = (bjD p d i || jumpsK k) := by
  rw [bj_skip kids.size fun m h1 h2 => dp_kids h m (by omega) h2]
  simp only [bjD]
  rw [(dp_head h).1, (dp_head h).2.1, if_neg (by omega)]
  cases jumpsK k
  · rw [if_neg (fun q => by cases q.2), Bool.or_false]
  · rw [if_pos ⟨rfl, rfl⟩, Bool.or_true]
/-- A line of a depth is behind a jump, in its block or in a block around it. -/
def BH (p : List Line) (d : Int) (i : Nat) : Prop := ∃ j, j < i ∧ jumpsK (kd p j) = true ∧ dp p j ≤ d ∧ ∀ m, j < m → m < i → dp p j ≤ dp p m
theorem bh_kids {p : List Line} {i : Nat} {d k a b : Int} {kids rest : Fo} (h : At p i d (.node k a b kids rest)) (hj : jumpsK k = false) : BH p (d + 1) (i + 1) ↔ BH p d i := by
  obtain ⟨h1, h2, _⟩ := dp_head h
  constructor
  · rintro ⟨j, j1, j2, j3, j4⟩
    have ne : j ≠ i := fun e => by rw [e, h2, hj] at j2; cases j2
    refine ⟨j, by omega, j2, ?_, fun m a1 a2 => j4 m a1 (by omega)⟩
    have := j4 i (by omega) (by omega)
    omega
  · rintro ⟨j, j1, j2, j3, j4⟩
    refine ⟨j, by omega, j2, by omega, fun m a1 a2 => ?_⟩
    by_cases e : m = i
    · subst e; omega
    · exact j4 m a1 (by omega)
theorem bh_rest {p : List Line} {i : Nat} {d k a b : Int} {kids rest : Fo} (h : At p i d (.node k a b kids rest)) : BH p d (i + 1 + kids.size) ↔ (BH p d i ∨ jumpsK k = true) := by
  obtain ⟨h1, h2, _⟩ := dp_head h
  have hk := dp_kids h
  constructor
  · rintro ⟨j, j1, j2, j3, j4⟩
    by_cases e : j = i
    · subst e; rw [h2] at j2; exact .inr j2
    · by_cases c : i < j
      · have := hk j c (by omega); omega
      · exact .inl ⟨j, by omega, j2, j3, fun m a1 a2 => j4 m a1 (by omega)⟩
  · rintro (⟨j, j1, j2, j3, j4⟩ | hj)
    · refine ⟨j, by omega, j2, j3, fun m a1 a2 => ?_⟩
      by_cases e : m = i
      · subst e; omega
      · by_cases c : i < m
        · have := hk m c (by omega); omega
        · exact j4 m a1 (by omega)
    · exact ⟨i, by omega, by rw [h2]; exact hj, by omega, fun m a1 a2 => by have := hk m (by omega) (by omega); omega⟩

/-! ### The line that a line goes on with -/
def hdD (p : List Line) (d : Int) : Nat → Option Nat
  | 0 => none
  | k + 1 => if dp p k < d then none else if dp p k = d then some k else hdD p d k
theorem hd_skip {p : List Line} {d : Int} {i : Nat} : ∀ n, (∀ m, i ≤ m → m < i + n → d < dp p m) → hdD p d (i + n) = hdD p d i
  | 0, _ => rfl
  | n + 1, h => by
    have := h (i + n) (by omega) (by omega)
    show hdD p d (i + n + 1) = _
    simp only [hdD]
    rw [if_neg (by omega), if_neg (by omega)]
    exact hd_skip n fun m h1 h2 => h m h1 (by omega)
theorem hd_rest {p : List Line} {i : Nat} {d k a b : Int} {kids rest : Fo} (h : At p i d (.node k a b kids rest)) : hdD p d (i + 1 + kids.size) = some i := by
  rw [hd_skip kids.size fun m h1 h2 => dp_kids h m (by omega) h2]
  simp only [hdD]
  rw [(dp_head h).1, if_neg (by omega), if_pos rfl]
/-- The first line of a line's try; 'n': enough. -/
def tryP (p : List Line) : Nat → Nat → Nat
  | 0, i => i
  | n + 1, i => if kd p i = 7 then i else match hdD p (dp p i) i with
    | some k => tryP p n k
    | none => i
theorem hdD_lt {p : List Line} {d : Int} : ∀ (i k : Nat), hdD p d i = some k → k < i
  | 0, k, h => by cases h
  | i + 1, k, h => by
    simp only [hdD] at h
    split at h
    · cases h
    · split at h
      · cases h; omega
      · have := hdD_lt i k h; omega
/-! ### Flags, line by line -/
def AlignB (D : List Bool) (i : Nat) (l : List Bool) : Prop := ∀ j, j < l.length → D.getD (i + j) false = l.getD j false
theorem align_cons {D : List Bool} {i : Nat} {x : Bool} {l1 l2 : List Bool} (h : AlignB D i (x :: (l1 ++ l2))) : D.getD i false = x ∧ AlignB D (i + 1) l1 ∧ AlignB D (i + 1 + l1.length) l2 := by
  refine ⟨by simpa using h 0 (by simp), fun j hj => ?_, fun j hj => ?_⟩
  · have := h (j + 1) (by simp; omega)
    rw [List.getD_cons_succ, List.getD_eq_getElem?_getD (l := l1 ++ l2), List.getElem?_append_left hj, ← List.getD_eq_getElem?_getD] at this
    rw [show i + 1 + j = i + (j + 1) by omega]; exact this
  · have := h (l1.length + j + 1) (by simp; omega)
    rw [List.getD_cons_succ, List.getD_eq_getElem?_getD (l := l1 ++ l2), List.getElem?_append_right (by omega), Nat.add_sub_cancel_left, ← List.getD_eq_getElem?_getD] at this
    rw [show i + 1 + l1.length + j = i + (l1.length + j + 1) by omega]; exact this
/-- Of each line whether it never catches. -/
def deF (t : List Class) : Fo → List Int → List Bool
  | .nil, _ => []
  | .node k a _ kids rest, cs => deadK t k a cs :: (deF t kids [] ++ deF t rest (csN k a cs))
theorem de_len (t : List Class) : ∀ (f : Fo) (cs : List Int), (deF t f cs).length = f.size
  | .nil, _ => rfl
  | .node k a b kids rest, cs => by simp only [deF, List.length_cons, List.length_append, de_len t kids, de_len t rest, Fo.size]; omega
noncomputable def exsP (t : List Class) (p : List Line) : List Bool := deF t (forestP p) []
/-- A line whose block is never run. -/
def loop0 (p : List Line) (k : Nat) : Bool := decide (kd p k = 12) && decide ((p.getD k default).a = 0)
noncomputable def shutB (t : List Class) (p : List Line) (k : Nat) : Bool := loop0 p k || (exsP t p).getD k false
/-- Whether a block is never run, by the line around it. -/
noncomputable def upSh (t : List Class) (p : List Line) : List Nat → Bool
  | [] => false
  | up :: _ => (deadsP t p).getD up false || loop0 p up
/-- Where a line of a try stands. -/
structure InTry (p : List Line) (i : Nat) (d : Int) (f : Fo) (cs : List Int) : Prop where
  at_ : ∃ (hd : Nat) (pre : List Nat) (last : Int), chainP p hd = hd :: (pre ++ chainN f i) ∧ hd < i ∧ kd p hd = 7 ∧ dp p hd = d ∧ 7 ≤ last ∧ tryG last (headsK f) = true ∧ (last ≤ 8 → cs = pre.map fun x => (p.getD x default).a) ∧ (∀ x ∈ pre, hd < x ∧ x < i ∧ (last ≤ 8 → kd p x = 8)) ∧ (∀ x, hd < x → x < i → dp p x = d → kd p x ≠ 7) ∧
    ∃ k, hdD p d i = some k ∧ ∀ n, k < n → tryP p n k = hd
structure Cx (t : List Class) (p : List Line) (i : Nat) (d : Int) (f : Fo) : Prop where
  nums : numsF t f d = true
  flags : ∃ (lp m sh seen bh : Bool) (cs : List Int), okF f lp m = true ∧ (m = true → InTry p i d f cs) ∧ AlignB (deadsP t p) i (dlF t f sh seen cs) ∧ AlignB (exsP t p) i (deF t f cs) ∧ bjD p d i = seen ∧ (BH p d i ↔ bh = true) ∧
    (sh || seen) = (bh || (enD p d i).any (shutB t p)) ∧ sh = upSh t p (enD p d i)
theorem opens_kids {t : List Class} {k a b d : Int} {kids rest : Fo} (hn : numsF t (.node k a b kids rest) d = true) (hk : kids ≠ .nil) : opensK k = true := by
  rw [(numsF_node hn).2.2.1]
  cases kids with
  | nil => exact absurd rfl hk
  | node _ _ _ _ _ => rfl
theorem opensK_iff {k : Int} : opensK k = true ↔ 7 ≤ k ∧ k ≤ 12 := by simp only [opensK, inR, Bool.and_eq_true, decide_eq_true_eq]
theorem ok_kids {k a b : Int} {kids rest : Fo} {lp m : Bool} (h : okF (.node k a b kids rest) lp m = true) (ho : opensK k = true) : ∃ lp', okF kids lp' false = true := by
  rw [opensK_iff] at ho
  rcases okF_node h with ⟨_, _, o1, _⟩ | ⟨hf, ⟨_, _, o1, _⟩ | ⟨h7, _, o2, o3, _⟩⟩
  · exact ⟨_, o1⟩
  · exact ⟨_, o1⟩
  · have : ¬ (8 ≤ k ∧ k ≤ 10) := fun w => by rw [← followsK_iff, hf] at w; cases w
    by_cases h11 : k = 11
    · exact ⟨_, o2 h11⟩
    · exact ⟨_, o3 (by omega)⟩
theorem Cx.kids {t : List Class} {p : List Line} (i : Nat) (d k a b : Int) (ks re : Fo) (ha : At p i d (.node k a b ks re)) (h : Cx t p i d (.node k a b ks re)) (hk : ks ≠ .nil) : Cx t p (i + 1) (d + 1) ks := by
  have ho := opens_kids h.nums hk
  have ho' := opensK_iff.1 ho
  have hj : jumpsK k = false := by
    cases q : jumpsK k
    · rfl
    · rw [jumpsK_iff] at q; omega
  obtain ⟨lp, m, sh, seen, bh, cs, h1, h2, h3, h4, h5, h6, h7, h8⟩ := h.flags
  obtain ⟨lp', o⟩ := ok_kids h1 ho
  obtain ⟨_, e2, e3, _⟩ := dp_head ha
  obtain ⟨a1, a2, _⟩ := align_cons (show AlignB _ i (_ :: (_ ++ _)) from h3)
  obtain ⟨b1, b2, _⟩ := align_cons (show AlignB _ i (_ :: (_ ++ _)) from h4)
  have l0 : loop0 p i = (decide (k = 12) && decide (a = 0)) := by unfold loop0; rw [e2, e3]
  refine ⟨(numsF_node h.nums).2.2.2.1, lp', false, _, false, bh, [], o, fun q => (by cases q), a2, b2, bj_kids ha, ?_, ?_, ?_⟩
  · rw [bh_kids ha hj]; exact h6
  · rw [en_kids ha, List.any_cons, Bool.or_false]
    have : shutB t p i = (deadK t k a cs || (decide (k = 12) && decide (a = 0))) := by unfold shutB; rw [l0, b1, Bool.or_comm]
    rw [this]
    have e : (sh || (seen || deadK t k a cs)) = ((sh || seen) || deadK t k a cs) := by rw [Bool.or_assoc]
    rw [e, h7]
    cases bh <;> cases (enD p d i).any (shutB t p) <;> cases deadK t k a cs <;> cases (decide (k = 12) && decide (a = 0)) <;> rfl
  · rw [en_kids ha]
    show _ = ((deadsP t p).getD i false || loop0 p i)
    rw [a1, l0]
theorem Cx.rest {t : List Class} {p : List Line} (i : Nat) (d k a b : Int) (ks re : Fo) (ha : At p i d (.node k a b ks re)) (h : Cx t p i d (.node k a b ks re)) (_ : re ≠ .nil) : Cx t p (i + 1 + ks.size) d re := by
  obtain ⟨lp, m, sh, seen, bh, cs, h1, h2, h3, h4, h5, h6, h7, h8⟩ := h.flags
  obtain ⟨e1, e2, e3, _⟩ := dp_head ha
  obtain ⟨a1, _, a3⟩ := align_cons (show AlignB _ i (_ :: (_ ++ _)) from h3)
  obtain ⟨b1, _, b3⟩ := align_cons (show AlignB _ i (_ :: (_ ++ _)) from h4)
  rw [dl_len] at a3
  rw [de_len] at b3
  have hb := bj_rest ha
  rw [h5] at hb
  have common : ∀ (lp m : Bool), okF re lp m = true → (m = true → InTry p (i + 1 + ks.size) d re (csN k a cs)) → Cx t p (i + 1 + ks.size) d re := by
    intro lp m o ht
    refine ⟨(numsF_node h.nums).2.2.2.2, lp, m, sh, (seen || jumpsK k), (bh || jumpsK k), csN k a cs, o, ht, a3, b3, hb, ?_, ?_, ?_⟩
    · rw [bh_rest ha, h6, Bool.or_eq_true]
    · rw [en_rest ha, ← Bool.or_assoc, h7]
      cases bh <;> cases (enD p d i).any (shutB t p) <;> cases jumpsK k <;> rfl
    · rw [en_rest ha]; exact h8
  rcases okF_node h1 with ⟨hf, hm, o1, o2⟩ | ⟨hf, ⟨k7, ot, o1, o2⟩ | ⟨k7, o1, _, _, _⟩⟩
  · refine common lp true o2 fun _ => ?_
    obtain ⟨hd, pre, last, t1, t2, t3, t3', t4, t5, t6, t7, t10, kk, t8, t9⟩ := (h2 hm).at_
    simp only [chainN, headsK] at t1 t5
    rw [if_pos hf] at t1 t5
    obtain ⟨g1, g2⟩ := tryG_cons t5
    have hne : k ≠ 7 := by rw [followsK_iff] at hf; omega
    refine ⟨hd, pre ++ [i], k, by rw [t1, List.append_assoc]; rfl, by omega, t3, t3', by rw [followsK_iff] at hf; omega, g2, fun q => ?_, fun x hx => ?_, fun x x1 x2 x3 => ?_, i, hd_rest ha, fun n hn => ?_⟩
    · have k8 : k = 8 := by rw [followsK_iff] at hf; omega
      rw [t6 (by omega), csN, if_pos k8, List.map_append, List.map_singleton, e3]
    · rw [List.mem_append, List.mem_singleton] at hx
      rcases hx with hx | rfl
      · obtain ⟨x1, x2, x3⟩ := t7 x hx
        exact ⟨x1, by omega, fun q => x3 (by omega)⟩
      · exact ⟨t2, by omega, fun q => by rw [e2]; rw [followsK_iff] at hf; omega⟩
    · by_cases c1 : x < i
      · exact t10 x x1 c1 x3
      · by_cases c2 : x = i
        · subst c2; rw [e2]; exact hne
        · have := dp_kids ha x (by omega) x2; omega
    · cases n with
      | zero => omega
      | succ n =>
        simp only [tryP]
        rw [e2, if_neg hne, e1, t8]
        have := hdD_lt _ _ t8
        exact t9 n (by omega)
  · refine common lp true o2 fun _ => ?_
    have hcs : csN k a cs = [] := by subst k7; rfl
    rw [hcs]
    simp only [tryOkF, Bool.and_eq_true] at ot
    refine ⟨i, [], 7, chainP_at ha, by omega, by rw [e2, k7], e1, by omega, ot.1, fun _ => rfl, fun x hx => (by cases hx), fun x x1 x2 x3 => (by have := dp_kids ha x x1 x2; omega), i, hd_rest ha, fun n hn => ?_⟩
    cases n with
    | zero => omega
    | succ n =>
      simp only [tryP]
      rw [e2, if_pos k7]
  · exact common lp false o1 fun q => by cases q
end
section
open Go Go.Sim
set_option maxRecDepth 100000
set_option maxHeartbeats 4000000

theorem At.sub {p : List Line} {i : Nat} {d : Int} {f : Fo} (h : At p i d f) : (p.take (i + f.size)).drop i = f.flat d := by
  obtain ⟨pre, post, rfl, rfl, _⟩ := h
  have e1 : (pre ++ (f.flat d ++ post)).take (pre.length + f.size) = pre ++ f.flat d := by
    rw [← List.append_assoc, ← flat_len f d, ← List.length_append, List.take_left]
  rw [e1, List.drop_left]
end
section
set_option maxRecDepth 100000
attribute [local go_sem ↓] aw_skip aw_ret aw_exit aw_region aw_draw aw_seq aw_block aw_loop aw_cond frz_nil frz_cons sq_normal sq_ret sq_exit exB_normal exB_ret exB_same exB_other retQ_ret retQ_normal ret0_ret ret0_normal ao_nil go1 g_move g_assign g_pick g_build g_load g_binOp g_unOp g_convert g_fieldAddr g_field g_indexAddr g_index g_extract g_lookup g_slice g_nilCheck g_len g_makeFunc h_call h_append h_alloc h_box h_buildSlice h_makeSlice h_store gV i_box i_buildSlice i_move i_assign i_build i_load i_binOp i_unOp i_convert i_fieldAddr i_field i_indexAddr i_index i_extract i_lookup i_makeMap i_mapUpdate i_slice i_nilCheck i_makeFunc i_len i_max i_min i_alloc i_makeSlice i_store i_append i_call i_pick boxI boxA buildSliceI buildSliceA makeSliceA makeMapA allocA storeA p_move p_assign p_pick p_build p_load p_binOp p_unOp p_convert p_fieldAddr p_field p_indexAddr p_index p_extract p_lookup p_makeMap p_mapUpdate p_slice p_nilCheck p_makeFunc p_len p_max p_min p_alloc p_box p_buildSlice p_makeSlice p_store p_append p_call x_nil x_go1 x_g0 x_g1 x_g2 x_g3 x_s0 x_s1 x_s2 x_s3 u_move u_assign u_pick u_build u_load u_binOp u_unOp u_convert u_fieldAddr u_field u_indexAddr u_index u_extract u_lookup u_slice u_nilCheck u_makeFunc u_len u_buildSlice x_s4 x_g4 rq_normal rq_ret rq_exit aw_range
attribute [local go_sem] frzV_sl frzK_some set_none set_other AHeap.set_self set_del set_set cnd_t cnd_f cnd_b retA_one retA_two retA_three retA_four retA_nil gIf_b mrgV_b mrgV_wh mrgV_U gIf_U gIf_wh mrgB_f mrgB_some mrgB_if wh_true wh_false keepA_some keepA_if gD_zero gD_succ gT_some bxA_t bxA_f callA_fn ev_tmp ev_const ev_global ev_func oc_bool oc_int oc_string oc_nil oc_nilptr oc_nilfunc cl_bool cl_int cl_string cl_nil updO_some updO_none upd_same upd_other init_at pickA_b pickA_wh selA_t selA_f selA_and selA_or selA_orn selA_orm selA_bb selA_ii beqt b_add b_sub b_mul b_and b_or b_xor b_eql b_neq b_lss b_leq b_gtr b_geq b_quo b_rem b_shr b_seql b_sneq b_sadd b_beql b_bneq b_aeql b_aneq u_not u_neg isConstOp eqA eqCellV List.getD_cons_zero List.getD_cons_succ List.map_cons List.map_nil List.nil_append List.cons_append List.append_nil if_true if_false Option.map_some Option.map_none ne_eq not_false_eq_true oneA ldv ld1v ld1s wr1s ldRow stRow row_lit row_agg row_vsl row_sl row_ptr row_fn one_I one_B one_S one_vsl one_sl one_ptr one_fn extractA okA rI rS rU rClass rFault rExit rStart rLine Int.toNat_natCast List.length_cons List.length_nil List.length_map List.all_cons List.all_nil Bool.and_true Nat.zero_add List.getElem?_cons_zero List.getElem?_cons_succ List.take_succ_cons List.take_zero List.drop_succ_cons List.drop_zero and_self true_and and_true implies_true decide_eq_true_eq decide_eq_false_iff_not Bool.or_eq_true Bool.or_eq_false_iff Bool.and_eq_true Bool.not_eq_true' Bool.not_eq_false' beq_false decide_true decide_false Int.ofNat_lt Int.ofNat_le Int.natCast_nonneg Bool.or_true Bool.or_false Bool.true_or Bool.false_or beq_self_eq_true List.drop_one Bool.not_true Bool.not_false Bool.not_not Bool.false_eq_true Bool.true_eq_false false_implies true_implies Bool.true_and Bool.false_and Bool.and_false not_true_eq_false Int.natCast_eq_zero Int.natCast_pos Int.natCast_zero false_and and_false or_false false_or or_true true_or Bool.or_self none_le_iff List.replicate_zero Int.toNat_zero List.replicate_succ buildRows List.set_cons_zero List.set_cons_succ List.set_nil List.mapM_nil maxLen_eq Nat.zero_le Nat.mul_one Nat.one_mul bldA fillA spliceA List.take_nil List.drop_nil List.getElem?_nil ld1o wr1o bldSliceA le_same cv_i cvI_t quietT_fn qvd_some ld_o ldO_1 ldO_l wr_o wrO_1 set_2 set_3 set_4 putL_nil putL_cons List.zip_cons_cons List.zip_nil_left List.zip_nil_right List.toList_toArray frzV_set ti1 ti2 tk2 ti3 te3 ts3 tk3 tz3 ti4 tb4 ti5 tk5 tz5 ti9 te9 ts9 tk9 tz9 ti12 tk12 ti13 tp13 tf13_0 tf13_1 ti20 ti21 tk21 tz21 ti22 te22 tz22 ti23 te23 ti24 tp24 tf24_0 ti25 tp25 tf25_0 ti26 te26 ti28 ti29 te29 ti30 te30 ti31 tp31 tf31_0 ti32 tp32 tf32_0 ti33 tp33 tf33_0 tf33_1 tf33_2 tf33_3 ti34 tp34 tf34_0 tf34_1 tf34_2 tf34_3 ti35 ti36 ti37 ti39 ti40 tq40 tp40 tf40_0 tf40_1 tf40_2 tf40_3 ti41 tq41 tp41 tf41_0 tf41_1 tf41_2 tf41_3 ti42 ti43 tq43 tp43 tf43_0 tf43_1 tf43_2 ti44 tq44 tp44 tf44_0 tf44_1 tf44_2 ti45 te45 ti46 tq46 tp46 tf46_0 tf46_1 tf46_2 ti47 tq47 tp47 tf47_0 tf47_1 tf47_2 ti49 ti50 ti51 ti53 ti54 ti55 ti56 te56 ti57 tp57 tf57_0 ti58 tp58 tf58_0 ti59 te59 ti60 ti61 ti62 ti63 ti64 ti65 ti66 ti67 ti68 ti69 ti70 ti71 te71 ti72 tq72 tp72 tf72_0 tf72_1 tf72_2 ti73 ti74 ti75 ti76 ti77 ti78 ti79 ti80 ti81 ti82 ti83 ti84 ti85 ti86 ti87 tq87 tp87 tf87_0 tf87_1 ti88 tq88 tp88 tf88_0 tf88_1 ti89 ti90 ti91 ti92 ti93 ti94 ti95 ti96 ti97 ti98 ti99 ti100 ti101 ti102 tq102 tp102 tf102_0 tf102_1 tf102_2 tf102_3 tf102_4 ti103 tq103 tp103 tf103_0 tf103_1 tf103_2 tf103_3 tf103_4 ti104 ti105 ti106 ti107 ti108 ti109 ti110 ti111 ti112 ti113 tq113 tp113 tf113_0 tf113_1 tf113_2 tf113_3 ti114 ti115 ti116 ti117 ti118 ti119 ti120 tq120 tp120 tf120_0 tf120_1 tf120_2 ti121 ti122 ti123 ti124 ti125 ti126 tp126 tf126_0 tf126_1 ti127 tp127 tf127_0 tf127_1 ti128 tp128 tf128_0 tf128_1 tf128_2 tf128_3 tf128_4 ti129 tp129 tf129_0 tf129_1 tf129_2 tf129_3 tf129_4 ti131 ti132 ti133 ti134 ti135 ti136 ti137 tp137 tf137_0 tf137_1 tf137_2 tf137_3 ti138 tp138 tf138_0 tf138_1 tf138_2 tf138_3 ti139 tq139 tp139 tf139_0 tf139_1 ti140 tq140 tp140 tf140_0 tf140_1 ti141 ti142 ti143 tq143 tp143 tf143_0 tf143_1 ti144 tq144 tp144 tf144_0 tf144_1 ti145 ti146 ti147 ti148 ti149 te149 ti150 ti151 te151 ti152 ti153 ti154 ti155 ti156 ti157 ti158 tp158 tf158_0 tf158_1 tf158_2 ti159 tp159 tf159_0 tf159_1 tf159_2 ti160 ti161 ti162 ti163 ti164 ti165 ti166 ti167 ti168 ti169 tq169 tp169 tf169_0 tf169_1 ti170 ti171 ti172 ti173 ti174 ti175 ti176 ti177 te177 ti178 ti179 ti180 ti181 ti182 ti183 ti184 ti185 ti186 ti187 ti188 ti189 ti190 ti191 ti192 ti193 ti194 ti195 ti196 ti197 ti198 ti199 ti200 ti201 ti202 ti203 ti204 ti205 tk205 tz205 ti206 ti207 ti208 ti209 tk209 ti211 ti212 ti213 ti215 ti216 ti217 tk217 tz217 ti218 ti219 tk219 tz219 ti220 tk220 ti221 ti222 ti223 ti224 ti225 ti226 ti228 ti229 ti235 ti239 ti244 fp13_0 fv13_0 fp13_1 fv13_1 fp24_0 fv24_0 fp25_0 fv25_0 fp31_0 fv31_0 fp32_0 fv32_0 fp33_0 fv33_0 fp33_1 fv33_1 fp33_2 fv33_2 fp33_3 fv33_3 fp34_0 fv34_0 fp34_1 fv34_1 fp34_2 fv34_2 fp34_3 fv34_3 fp40_0 fv40_0 fp40_1 fv40_1 fp40_2 fv40_2 fp40_3 fv40_3 fp41_0 fv41_0 fp41_1 fv41_1 fp41_2 fv41_2 fp41_3 fv41_3 fp43_0 fv43_0 fp43_1 fv43_1 fp43_2 fv43_2 fp44_0 fv44_0 fp44_1 fv44_1 fp44_2 fv44_2 fp46_0 fv46_0 fp46_1 fv46_1 fp46_2 fv46_2 fp47_0 fv47_0 fp47_1 fv47_1 fp47_2 fv47_2 fp57_0 fv57_0 fp58_0 fv58_0 fp72_0 fv72_0 fp72_1 fv72_1 fp72_2 fv72_2 fp87_0 fv87_0 fp87_1 fv87_1 fp88_0 fv88_0 fp88_1 fv88_1 fp102_0 fv102_0 fp102_1 fv102_1 fp102_2 fv102_2 fp102_3 fv102_3 fp102_4 fv102_4 fp103_0 fv103_0 fp103_1 fv103_1 fp103_2 fv103_2 fp103_3 fv103_3 fp103_4 fv103_4 fp113_0 fv113_0 fp113_1 fv113_1 fp113_2 fv113_2 fp113_3 fv113_3 fp120_0 fv120_0 fp120_1 fv120_1 fp120_2 fv120_2 fp126_0 fv126_0 fp126_1 fv126_1 fp127_0 fv127_0 fp127_1 fv127_1 fp128_0 fv128_0 fp128_1 fv128_1 fp128_2 fv128_2 fp128_3 fv128_3 fp128_4 fv128_4 fp129_0 fv129_0 fp129_1 fv129_1 fp129_2 fv129_2 fp129_3 fv129_3 fp129_4 fv129_4 fp137_0 fv137_0 fp137_1 fv137_1 fp137_2 fv137_2 fp137_3 fv137_3 fp138_0 fv138_0 fp138_1 fv138_1 fp138_2 fv138_2 fp138_3 fv138_3 fp139_0 fv139_0 fp139_1 fv139_1 fp140_0 fv140_0 fp140_1 fv140_1 fp143_0 fv143_0 fp143_1 fv143_1 fp144_0 fv144_0 fp144_1 fv144_1 fp158_0 fv158_0 fp158_1 fv158_1 fp158_2 fv158_2 fp159_0 fv159_0 fp159_1 fv159_1 fp159_2 fv159_2 fp169_0 fv169_0 fp169_1 fv169_1 lv22 ll22 is22 ix22 sh22 so22 sb22 sm22 sp22 lv23 ll23 is23 ix23 sh23 so23 sb23 sm23 sp23 lv26 ll26 is26 ix26 sh26 so26 sb26 sm26 sp26 lv29 ll29 is29 ix29 sh29 so29 sb29 sm29 sp29 lv30 ll30 is30 ix30 sh30 so30 sb30 sm30 sp30 lv45 ll45 is45 ix45 sh45 so45 sb45 sm45 sp45 lv56 ll56 is56 sp56 lv59 ll59 is59 sp59 lv71 ll71 is71 sp71 lv149 ll149 is149 sp149 lv151 ll151 is151 sp151 lv177 ll177 is177 ix177 sh177 so177 sb177 sm177 sp177 xs9 ls9 sx9 sy9 sz9
section
open Go Go.Sim
set_option maxRecDepth 100000
set_option maxHeartbeats 4000000

/-- A function that draws lines into a block of their own. -/
def Drawn (f : FuncId) (p : Nat) (d : Int) : Prop := ∀ (F : AHeap) (br n : Nat) (K : ABlk) (t : List Class) (cl : Bool) (lp : Bool), RdK n K → F br = none → n + p < 600000000 →
  ACalls Tryz.prog f [.ptr br 2 0 0, aTree t cl, I d, B lp] (F.set br K) fun r H' => ∃ (l : List Line) (G : AHeap) (K' : ABlk), Grow rLine 4 41 F G r l ∧ G br = none ∧ H' = G.set br K' ∧ RdK (n + p) K' ∧ 1 ≤ l.length ∧ l.length ≤ p
/-- The same, told when nobody writes them any more. -/
def DrawnF (f : FuncId) (p : Nat) (d : Int) : Prop := ∀ (F : AHeap) (br n : Nat) (K : ABlk) (t : List Class) (cl : Bool) (lp : Bool), RdK n K → F br = none → n + p < 600000000 →
  ACalls Tryz.prog f [.ptr br 2 0 0, aTree t cl, I d, B lp] (F.set br K) fun r H' => ∃ (l : List Line) (cl' : Bool) (K' : ABlk), r = .vsl (l.map rLine) cl' ∧ H' = F.set br K' ∧ RdK (n + p) K' ∧ 1 ≤ l.length ∧ l.length ≤ p
theorem Drawn.frz {f : FuncId} {p : Nat} {d : Int} (h : Drawn f p d) : DrawnF f p d := by
  intro F br n K t cl lp hK hF hn
  refine acalls_fz (h F br n K t cl lp hK hF hn) ?_
  rintro x _ ⟨l, G, K', hg, hr, rfl, hK', h1, h2⟩
  have hg' := grow_in (K := K') hg hr
  obtain ⟨cl', hz⟩ := grow_fz hg'
  exact ⟨_, F.set br K', grow_le hg', hz, l, cl', K', rfl, rfl, hK', h1, h2⟩
end
section
open Go Go.Sim
set_option maxRecDepth 100000

theorem rel_res {c : Clo} {r : En × RS} (h : RelC c r) : resOf r = resM c := by
  obtain ⟨k1, k2, k3⟩ := h
  unfold resM
  by_cases q : 0 ≤ c.cur
  · have e3 : r.1 = ⟨2, c.cur⟩ := by rw [k1]; unfold enC; rw [if_pos q]
    rw [if_pos q, res_two (by rw [e3]), k2, k3, e3]
    rfl
  · have e3 : r.1 = .next := by rw [k1]; unfold enC; rw [if_neg q]
    rw [if_neg q, res_else (by rw [e3]; decide), k2, e3]
    rfl
theorem clo_step {t : List Class} {s : Clo} {e : Exi} {n : Nat} (he : exitOk t e = true) (hc : CloOk t s n) (hf : FsOk t s.fs) (hd : dep s.fs s.cur ≤ n + 1) : FsOk t (stepX t s e).fs ∧ dep (stepX t s e).fs (stepX t s e).cur ≤ n + 1 + 1 := by
  unfold stepX
  split
  · exact ⟨hf, Nat.le_succ_of_le hd⟩
  · split
    · split
      · exact ⟨hf, Nat.le_succ_of_le hd⟩
      · exact ⟨hf, Nat.le_succ_of_le hd⟩
    · split
      · split
        · exact ⟨hf, by show dep s.fs (-1) ≤ _; rw [dep_neg (by decide)]; omega⟩
        · exact ⟨hf, Nat.le_succ_of_le hd⟩
      · rename_i h0 h1 h2
        split
        · rename_i h3
          unfold exitOk at he
          rw [if_neg h0, if_neg h1, if_neg h2, if_pos h3, Bool.and_eq_true] at he
          refine ⟨hf.raise he.1 he.2 hc.cur, ?_⟩
          show dep (raiseF s.fs e.a e.b s.cur) s.fs.length ≤ _
          rw [dep_new hc.ho hc.cur]; omega
        · exact ⟨hf, Nat.le_succ_of_le hd⟩
theorem clo_fold {t : List Class} : ∀ (L : List Exi) (c : Clo) (n : Nat), (∀ e ∈ L, exitOk t e = true) → CloOk t c n → FsOk t c.fs → dep c.fs c.cur ≤ n + 1 → FsOk t (L.foldl (stepX t) c).fs ∧ dep (L.foldl (stepX t) c).fs (L.foldl (stepX t) c).cur ≤ n + L.length + 1
  | [], c, n, _, _, h, h' => ⟨h, h'⟩
  | e :: L, c, n, hL, hc, h, h' => by
    rw [List.foldl_cons, List.length_cons]
    have he := hL e (List.mem_cons_self ..)
    obtain ⟨a1, a2⟩ := clo_step he hc h h'
    have := clo_fold L _ (n + 1) (fun x hx => hL x (List.mem_cons_of_mem _ hx)) (hc.step he) a1 a2
    refine ⟨this.1, ?_⟩
    have := this.2
    omega
theorem clo_start {t : List Class} {x : Sta} (hx : startOk t x = true) : FsOk t (startX x).fs ∧ dep (startX x).fs (startX x).cur ≤ 1 := by
  unfold startX
  unfold startOk at hx
  cases h : x.has
  · rw [if_neg (by decide)]
    exact ⟨fsOk_nil t, by show dep [] (-1) ≤ 1; rw [dep_neg (by decide)]; omega⟩
  · rw [h, if_pos rfl, Bool.and_eq_true] at hx
    rw [if_pos rfl]
    refine ⟨(fsOk_nil t).raise hx.1 hx.2 (by decide), ?_⟩
    have := dep_new heapOk_nil (c := x.cls) (d := x.code) (g := -1) (by show (-1 : Int) < ((0 : Nat) : Int); decide)
    rw [dep_neg (v := -1) (by decide)] at this
    exact Nat.le_of_eq this
theorem clo_close {t : List Class} {l : List Exi} {x : Sta} (hl : validX t l = true) (hx : startOk t x = true) : FsOk t (closeX t l x).fs ∧ dep (closeX t l x).fs (closeX t l x).cur ≤ 24 := by
  obtain ⟨ht, h8⟩ := validX_T hl
  have hall : ∀ e ∈ l.reverse, exitOk t e = true := fun e he => by
    obtain ⟨i, hi, rfl⟩ := List.mem_iff_getElem.1 (List.mem_reverse.1 he)
    have := validX_at hl hi
    rwa [List.getD_eq_getElem?_getD, List.getElem?_eq_getElem hi] at this
  obtain ⟨a1, a2⟩ := clo_start hx
  have := clo_fold l.reverse (startX x) 0 hall (CloOk.start hx) a1 a2
  refine ⟨this.1, ?_⟩
  have h := this.2
  rw [List.length_reverse] at h
  show dep (l.reverse.foldl (stepX t) (startX x)).fs _ ≤ 24
  unfold closeX
  omega
end
section
open Go Go.Sim
set_option maxRecDepth 100000

theorem resM_log (c : Clo) : (resM c).log = c.log := by
  unfold resM; split <;> rfl
/-- What exits end with hangs on the class of their start alone. -/
structure Like (a b : Clo) : Prop where
  cur : a.cur = b.cur
  cls : a.fs.map (·.cls) = b.fs.map (·.cls)
theorem Like.at_ {a b : Clo} (h : Like a b) (k : Nat) : (a.fs.getD k default).cls = (b.fs.getD k default).cls := by
  have e := congrArg (fun l : List Int => l[k]?) h.cls
  simp only [List.getElem?_map] at e
  rw [List.getD_eq_getElem?_getD, List.getD_eq_getElem?_getD]
  cases h1 : a.fs[k]? <;> cases h2 : b.fs[k]? <;> rw [h1, h2] at e <;> simp at e ⊢
  exact e
theorem Like.len {a b : Clo} (h : Like a b) : a.fs.length = b.fs.length := by
  have := congrArg List.length h.cls
  simpa using this
theorem Like.step {t : List Class} {a b : Clo} (h : Like a b) (e : Exi) : Like (stepX t a e) (stepX t b e) := by
  have hc := h.cur
  have ha := h.at_ b.cur.toNat
  unfold stepX
  rw [hc, ha]
  split
  · exact ⟨rfl, h.cls⟩
  · split
    · split
      · exact ⟨rfl, h.cls⟩
      · exact h
    · split
      · split
        · exact ⟨rfl, h.cls⟩
        · exact h
      · split
        · refine ⟨?_, ?_⟩
          · show ((a.fs.length : Nat) : Int) = b.fs.length
            rw [h.len]
          · show (raiseF a.fs e.a e.b b.cur).map _ = (raiseF b.fs e.a e.b b.cur).map _
            unfold raiseF
            rw [List.map_append, List.map_append, h.cls]
        · exact h
end
section
open Go Go.Sim
set_option maxRecDepth 100000
set_option maxHeartbeats 4000000

/-- A line that goes on with a try, with what its block is worth. -/
structure ChainAt (t : List Class) (p : List Line) (d : Int) (lp : Bool) (f : Fo) (q : Nat) (k : Int) (ks : Fo) : Prop where
  at_ : ∃ a b re, At p q d (.node k a b ks re)
  small : ks.size < f.size
  nums : numsF t ks (d + 1) = true
  ok : okF ks lp false = true
  cost : cost ks ≤ Go.Proofs.YtjpfgafdjlkblaaGreat.cost f
end
section
open Go Go.Sim
set_option maxRecDepth 100000
set_option maxHeartbeats 4000000

theorem rel_opn {O : Nat → Prop} {w : World} {es : List (List AV)} {cl : Bool} {v : Value} (h : Rel O w (.vsl es cl) v) : Rel O w (.vsl es false) v := by
  cases h with
  | vnil => exact .vnil false
  | vsl es cl b o sz cap g h1 h2 h3 h4 h5 h6 h7 h8 h9 => exact .vsl es false b o sz cap g h1 h2 (fun q => by cases q) h4 h5 h6 h7 h8 h9
theorem rel_one {O : Nat → Prop} {w : World} {es : List (List AV)} {cl : Bool} {v : Value} (h : Rel O w (.agg [.vsl es cl]) v) : Rel O w (.agg [.vsl es false]) v := by
  cases h with
  | agg _ vs e1 e2 e3 =>
    refine .agg _ vs (by simpa using e1) e2 fun i c u hc hu => ?_
    cases i with
    | zero => simp at hc; subst hc; exact rel_opn (e3 0 _ u rfl hu)
    | succ i => simp at hc
end
section
open Go Go.Sim
set_option maxRecDepth 100000
set_option maxHeartbeats 4000000
theorem zip_fst : ∀ (l : List Oper) (n : Nat), (l.zipIdx n).map (·.1) = l
  | [], _ => rfl
  | o :: l, n => by rw [List.zipIdx_cons, List.map_cons, zip_fst l (n + 1)]
/-- A drawn region, where the sixth operation may come at any time. -/
theorem draw_intro5 {P : Program} {o0 o1 o2 o3 o4 fo : Oper} {l2 : List Oper} {tm : Tm} {H : AHeap} {F : Tm → AHeap → Prop} {g : Tag (o0 :: o1 :: o2 :: o3 :: o4 :: fo :: l2, tm, H, F)} (qs tags : List Nat) (ws : List Bool) (t2 : List Nat) (Hp : AHeap) (h1 : tagsF qs 5 (o0 :: o1 :: o2 :: o3 :: o4 :: fo :: l2) = some tags)
    (hw : [isWq qs 0 o0.op, isWq qs 1 o1.op, isWq qs 2 o2.op, isWq qs 3 o3.op, isWq qs 4 o4.op] = ws) (ht : ((l2.zipIdx 6).map fun x => tags.getD x.2 0) = t2) (h2 : AHeap.le Hp H)
    (h3 : aopsTX P (fun _ => .top) Hp (o0 :: o1 :: o2 :: o3 :: o4 :: fo :: l2) fo (tags.getD 5 0) l2 t2 [o0, o1, o2, o3, o4] [tags.getD 0 0, tags.getD 1 0, tags.getD 2 0, tags.getD 3 0, tags.getD 4 0] ws tm H F) : ADrawT P (o0 :: o1 :: o2 :: o3 :: o4 :: fo :: l2) tm H F g := by
  refine draw_introF qs 5 tags Hp (fo := fo) h1 rfl h2 ?_
  have e1 : (List.drop (5 + 1) (o0 :: o1 :: o2 :: o3 :: o4 :: fo :: l2).zipIdx) = l2.zipIdx 6 := by simp [List.zipIdx_cons]
  have e2 : (List.take 5 (o0 :: o1 :: o2 :: o3 :: o4 :: fo :: l2).zipIdx) = [(o0, 0), (o1, 1), (o2, 2), (o3, 3), (o4, 4)] := by simp [List.zipIdx_cons]
  rw [e1, e2, ht]
  have e3 : (l2.zipIdx 6).map (·.1) = l2 := zip_fst l2 6
  rw [e3]
  subst hw
  exact h3
end
section
open Go Go.Sim
set_option maxRecDepth 100000
set_option maxHeartbeats 4000000

theorem close_small2 {t : List Class} {l : List Exi} {x : Sta} (hl : validX t l = true) (hx : startOk t x = true) : (resM (closeX t l x)).heap.length ≤ 24 := by
  have hok := closeX_ok hl hx
  obtain ⟨hf, hd⟩ := clo_close hl hx
  have ht := (validX_T hl).1
  generalize closeX t l x = c at hok hf hd
  have hr : RelC c (enC c, { rs0 with log := c.log, fs := c.fs }) := ⟨rfl, rfl, rfl⟩
  rw [← rel_res hr]
  by_cases q : 0 ≤ c.cur
  · have e : enC c = ⟨2, c.cur⟩ := by unfold enC; rw [if_pos q]
    rw [e]
    exact (validH_all (run_out (r := (⟨2, c.cur⟩, { rs0 with log := c.log, fs := c.fs })) ht hf rfl q hok.cur hd).valid).2.2.2
  · have e : enC c = .next := by unfold enC; rw [if_neg q]
    rw [e, res_else (by show (0 : Int) ≠ 2; decide)]
    exact Nat.zero_le _
theorem opn_tree {P : Program} {f : FuncId} {args : List AV} {H : AHeap} {es : List (List AV)} (h : ACalls P f args H fun r H' => (∃ cl, r = .agg [.vsl es cl]) ∧ H' = H) : ACalls P f args H fun r H' => r = .agg [.vsl es false] ∧ H' = H := by
  refine ⟨h.1, fun w vs hh hv => (h.2 w vs hh hv).mono ?_⟩
  rintro e w' ⟨v, r, H', rfl, ⟨⟨cl, rfl⟩, rfl⟩, h1, h2⟩
  exact ⟨v, _, _, rfl, ⟨rfl, rfl⟩, rel_one h1, h2⟩
theorem opn_vsl {P : Program} {f : FuncId} {args : List AV} {H : AHeap} {es : List (List AV)} (h : ACalls P f args H fun r H' => (∃ cl, r = .vsl es cl) ∧ H' = H) : ACalls P f args H fun r H' => r = .vsl es false ∧ H' = H := by
  refine ⟨h.1, fun w vs hh hv => (h.2 w vs hh hv).mono ?_⟩
  rintro e w' ⟨v, r, H', rfl, ⟨⟨cl, rfl⟩, rfl⟩, h1, h2⟩
  exact ⟨v, _, _, rfl, ⟨rfl, rfl⟩, rel_opn h1, h2⟩
theorem opn_res {P : Program} {f : FuncId} {args : List AV} {H : AHeap} {R : Res} (h : ACalls P f args H fun r H' => (∃ c1 c2, r = aRes R c1 c2) ∧ H' = H) : ACalls P f args H fun r H' => r = aRes R false false ∧ H' = H := by
  refine ⟨h.1, fun w vs hh hv => (h.2 w vs hh hv).mono ?_⟩
  rintro e w' ⟨v, r, H', rfl, ⟨⟨c1, c2, rfl⟩, rfl⟩, h1, h2⟩
  refine ⟨v, _, _, rfl, ⟨rfl, rfl⟩, ?_, h2⟩
  cases h1 with
  | agg _ vs e1 e2 e3 =>
    refine .agg _ vs (by simpa using e1) e2 fun i c u hc hu => ?_
    match i, hc with
    | 0, hc => simp at hc; subst hc; exact rel_opn (e3 0 _ u rfl hu)
    | 1, hc => exact e3 1 c u (by simpa using hc) hu
    | 2, hc => exact e3 2 c u (by simpa using hc) hu
    | 3, hc => simp at hc; subst hc; exact rel_opn (e3 3 _ u rfl hu)
    | i + 4, hc => simp at hc
theorem q_toTree (t : List Class) (cl : Bool) (H : AHeap) (hl : t.length ≤ 1048576) : ACalls Tryz.prog 26 [aTree t cl] H fun r H' => r = aTree t false ∧ H' = H :=
  opn_tree (acalls_frzA (c_toTree0 t cl H hl) fun c => ⟨⟨c, rfl⟩, rfl⟩)
theorem q_toExitS (l : List Exi) (cl : Bool) (H : AHeap) (hl : l.length ≤ 1048576) : ACalls Tryz.prog 40 [.vsl (l.map rExit) cl] H fun r H' => r = .vsl (l.map rExit) false ∧ H' = H :=
  opn_vsl (acalls_frz (c_toExitS l cl H hl) fun c => ⟨⟨c, rfl⟩, rfl⟩)
theorem c_LawExactCloseExits (t : List Class) (cl : Bool) (p : List Exi) (cl' : Bool) (x : Sta) (H : AHeap) (hn : namesOk t) (hp : p.length ≤ 6000000000000) : ACalls Tryz.prog 7 [aTree t cl, .vsl (p.map rExit) cl', .agg (rStart x)] H fun r H' => r = B true ∧ H' = H := by
  have hm := fun c5 c6 H => c_mCloseExits t c5 p c6 x H hn
  have hs := fun c5 c6 H => c_sCloseExits t c5 p c6 x H hn
  have hRl : (if (validX t p && startOk t x) = true then resM (closeX t p x) else res0).log.length ≤ 1000000 ∧ (if (validX t p && startOk t x) = true then resM (closeX t p x) else res0).heap.length ≤ 1000000 := by
    split
    · rename_i hv
      rw [Bool.and_eq_true] at hv
      have h1 := closeX_ok hv.1 hv.2
      have h2 := (validX_T hv.1).2
      have h3 := h1.log
      have h4 := close_small2 hv.1 hv.2
      rw [resM_log]
      exact ⟨by omega, by omega⟩
    · exact ⟨by decide, by decide⟩
  have he : (if (validX t p && startOk t x) = true then resX (closeX t p x) else res0) = (if (validX t p && startOk t x) = true then resM (closeX t p x) else res0) := by
    split
    · rename_i hv
      rw [Bool.and_eq_true] at hv
      rw [res_same (closeX_ok hv.1 hv.2)]
    · rfl
  rw [he] at hs
  generalize (if (validX t p && startOk t x) = true then resM (closeX t p x) else res0) = R at hm hs hRl
  refine acalls_of1 Tryz.func7 rfl (by kernel_rfl) rfl rfl (awp_sound (fz := fun r => if r = 8 then [8] else if r = 9 then [9] else if r = 11 then [11] else if r = 31 then [15] else []) (im := fun s => s == 3 || s == 5) mixed _ _ _ _ (by kernel_rfl) ?_)
  simp +contextual -dsimp -implicitDefEqProofs (maxSteps := 5000000) only [go_sem, reduceIte, reduceCtorEq, Nat.reduceEqDiff, Nat.reduceBEq, Nat.reduceAdd, Nat.reduceLeDiff, Nat.reduceMul, Nat.reduceLT, Int.reduceEq, Int.reduceLT, Int.reduceLE]
  refine (c_szTree t cl 1048576 _ hn (by omega) (by omega)).mono ?_
  rintro _ H ⟨⟨v, rfl, hv, htl⟩, rfl⟩
  by_cases h1 : v < 0
  · simp +contextual -dsimp -implicitDefEqProofs (maxSteps := 5000000) only [go_sem, reduceIte, reduceCtorEq, Nat.reduceEqDiff, Nat.reduceBEq, Nat.reduceAdd, Nat.reduceLeDiff, Nat.reduceMul, Nat.reduceLT, Int.reduceEq, Int.reduceLT, Int.reduceLE, h1]
    refine retR_less (l := [B true]) (H' := H) ?_ (AHeap.le_refl _) ⟨rfl, rfl⟩
    simp only [resA, go_sem, reduceIte, reduceCtorEq, Nat.reduceEqDiff, Nat.reduceBEq, Nat.reduceAdd, Nat.reduceLeDiff, Nat.reduceMul, Nat.reduceLT, Int.reduceEq, Int.reduceLT, Int.reduceLE]
  simp +contextual -dsimp -implicitDefEqProofs (maxSteps := 5000000) only [go_sem, reduceIte, reduceCtorEq, Nat.reduceEqDiff, Nat.reduceBEq, Nat.reduceAdd, Nat.reduceLeDiff, Nat.reduceMul, Nat.reduceLT, Int.reduceEq, Int.reduceLT, Int.reduceLE, h1]
  refine (c_szExitS p cl' v _ (by omega) (by omega)).mono ?_
  rintro _ H ⟨⟨u, rfl, hu, hpl⟩, rfl⟩
  by_cases h2 : u < 0
  · simp +contextual -dsimp -implicitDefEqProofs (maxSteps := 5000000) only [go_sem, reduceIte, reduceCtorEq, Nat.reduceEqDiff, Nat.reduceBEq, Nat.reduceAdd, Nat.reduceLeDiff, Nat.reduceMul, Nat.reduceLT, Int.reduceEq, Int.reduceLT, Int.reduceLE, h2]
    refine retR_less (l := [B true]) (H' := H) ?_ (AHeap.le_refl _) ⟨rfl, rfl⟩
    simp only [resA, go_sem, reduceIte, reduceCtorEq, Nat.reduceEqDiff, Nat.reduceBEq, Nat.reduceAdd, Nat.reduceLeDiff, Nat.reduceMul, Nat.reduceLT, Int.reduceEq, Int.reduceLT, Int.reduceLE]
  simp +contextual -dsimp -implicitDefEqProofs (maxSteps := 5000000) only [go_sem, reduceIte, reduceCtorEq, Nat.reduceEqDiff, Nat.reduceBEq, Nat.reduceAdd, Nat.reduceLeDiff, Nat.reduceMul, Nat.reduceLT, Int.reduceEq, Int.reduceLT, Int.reduceLE, h2]
  have tl2 := htl (by omega)
  have pl2 := hpl (by omega)
  have hsq := fun HH => opn_res (hs false false HH)
  have hmq := fun HH => opn_res (own_frz (hm false false HH))
  refine draw_introQ [1,3,5,6] [1, 4, 0, 4, 1, 4, 4, 3, 2] (fun s => if s = 27 then aTree t false else if s = 29 then .vsl (p.map rExit) false else if s = 31 then .agg (rStart x) else aRes R false false) _ (by kernel_rfl) (AHeap.le_refl _) ?_
  simp +contextual -dsimp -implicitDefEqProofs (maxSteps := 5000000) only [go_sem, reduceIte, reduceCtorEq, Nat.reduceEqDiff, Nat.reduceBEq, Nat.reduceAdd, Nat.reduceLeDiff, Nat.reduceMul, Nat.reduceLT, Int.reduceEq, Int.reduceLT, Int.reduceLE]
  refine ⟨fun H' _ => q_toTree t cl H' tl2, fun H' _ => q_toExitS p cl' H' pl2, fun H' _ => c_toStart x H', fun H' _ => hsq H', ?_⟩
  intro b6 hb6
  refine ⟨le_set hb6, ?_⟩
  refine (c_toTree0 t cl _ (htl (by omega))).mono ?_
  rintro _ H1 ⟨x0, rfl, g0⟩
  obtain ⟨o1, o2⟩ := one_grow g0
  simp +contextual -dsimp -implicitDefEqProofs (maxSteps := 5000000) only [go_sem, reduceIte, reduceCtorEq, Nat.reduceEqDiff, Nat.reduceBEq, Nat.reduceAdd, Nat.reduceLeDiff, Nat.reduceMul, Nat.reduceLT, Int.reduceEq, Int.reduceLT, Int.reduceLE, o1, o2]
  intro b7 hb7
  refine (c_toExitS p cl' _ (hpl (by omega))).mono ?_
  rintro x1 H2 g1
  obtain ⟨o3, o4⟩ := one_grow g1
  simp +contextual -dsimp -implicitDefEqProofs (maxSteps := 5000000) only [go_sem, reduceIte, reduceCtorEq, Nat.reduceEqDiff, Nat.reduceBEq, Nat.reduceAdd, Nat.reduceLeDiff, Nat.reduceMul, Nat.reduceLT, Int.reduceEq, Int.reduceLT, Int.reduceLE, o1, o2, o3, o4]
  obtain ⟨c5, z0⟩ := grow_froz g0
  obtain ⟨c6, z1⟩ := grow_froz g1
  have z0' := agg1_froz (froz_le z0 (grow_le g1))
  refine draw_intro5 [] [1, 0, 1, 3, 2, 3, 2] [false, false, false, true, true] [2] _ (by kernel_rfl) rfl rfl (AHeap.le_refl _) ?_
  simp +contextual -dsimp -implicitDefEqProofs (maxSteps := 5000000) only [go_sem, reduceIte, reduceCtorEq, Nat.reduceEqDiff, Nat.reduceBEq, Nat.reduceAdd, Nat.reduceLeDiff, Nat.reduceMul, Nat.reduceLT, Int.reduceEq, Int.reduceLT, Int.reduceLE, tx_go, tx_nil, List.getD_cons_succ, List.getD_cons_zero, o1, o2, o3, o4]
  refine ⟨fun b11 hb11 => ⟨le_set hb11, ?_⟩, ?_⟩
  · refine (c_toStart x _).det ?_
    simp +contextual -dsimp -implicitDefEqProofs (maxSteps := 5000000) only [go_sem, reduceIte, reduceCtorEq, Nat.reduceEqDiff, Nat.reduceBEq, Nat.reduceAdd, Nat.reduceLeDiff, Nat.reduceMul, Nat.reduceLT, Int.reduceEq, Int.reduceLT, Int.reduceLE, o1, o2, o3, o4]
    refine ⟨le_set hb11, ?_⟩
    refine lend_res [aTree t c5, .vsl (p.map rExit) c6, .agg (rStart x)] (.cons (froz_le z0' (le_set hb11)) (.cons (froz_le z1 (le_set hb11)) (.cons (.same _) .nil))) (hm c5 c6 _) ?_
    intro r HH g2
    obtain ⟨H3, rfl, g2, n11⟩ := own_out g2 hb11
    obtain ⟨xl, xh, hr, o5, o6⟩ := own_row g2
    subst hr
    simp +contextual -dsimp -implicitDefEqProofs (maxSteps := 5000000) only [go_sem, reduceIte, reduceCtorEq, Nat.reduceEqDiff, Nat.reduceBEq, Nat.reduceAdd, Nat.reduceLeDiff, Nat.reduceMul, Nat.reduceLT, Int.reduceEq, Int.reduceLT, Int.reduceLE, o1, o2, o3, o4, o5, o6, n11]
    obtain ⟨c7, c8, z2⟩ := own_froz g2
    refine acalls_borrow [aRes R c7 c8, aRes R false false] (.cons z2 (.cons (.same _) .nil)) (c_eqResult R c7 c8 false false _) rfl ?_
    simp +contextual -dsimp -implicitDefEqProofs (maxSteps := 5000000) only [go_sem, reduceIte, reduceCtorEq, Nat.reduceEqDiff, Nat.reduceBEq, Nat.reduceAdd, Nat.reduceLeDiff, Nat.reduceMul, Nat.reduceLT, Int.reduceEq, Int.reduceLT, Int.reduceLE, o1, o2, o3, o4, o5, o6]
    refine draw_intro [1, 0, 3, 2, 0] _ (by kernel_rfl) (AHeap.le_refl _) ?_
    simp +contextual -dsimp -implicitDefEqProofs (maxSteps := 5000000) only [go_sem, reduceIte, reduceCtorEq, Nat.reduceEqDiff, Nat.reduceBEq, Nat.reduceAdd, Nat.reduceLeDiff, Nat.reduceMul, Nat.reduceLT, Int.reduceEq, Int.reduceLT, Int.reduceLE, o1, o2, o3, o4, o5, o6]
    refine acalls_frzA (c_toTree0 t cl _ (htl (by omega))) fun c9 => ?_
    simp +contextual -dsimp -implicitDefEqProofs (maxSteps := 5000000) only [go_sem, reduceIte, reduceCtorEq, Nat.reduceEqDiff, Nat.reduceBEq, Nat.reduceAdd, Nat.reduceLeDiff, Nat.reduceMul, Nat.reduceLT, Int.reduceEq, Int.reduceLT, Int.reduceLE, o1, o2, o3, o4, o5, o6]
    refine acalls_borrow [aTree t c5, aTree t c9] (.cons (agg1_froz (froz_le z0 (AHeap.le_trans (grow_le g1) (own_le g2)))) (.cons (.same _) .nil)) (c_eqTree t c5 c9 _) rfl ?_
    simp +contextual -dsimp -implicitDefEqProofs (maxSteps := 5000000) only [go_sem, reduceIte, reduceCtorEq, Nat.reduceEqDiff, Nat.reduceBEq, Nat.reduceAdd, Nat.reduceLeDiff, Nat.reduceMul, Nat.reduceLT, Int.reduceEq, Int.reduceLT, Int.reduceLE, o1, o2, o3, o4, o5, o6]
    refine acalls_frz (c_toExitS p cl' _ (hpl (by omega))) fun c10 => ?_
    simp +contextual -dsimp -implicitDefEqProofs (maxSteps := 5000000) only [go_sem, reduceIte, reduceCtorEq, Nat.reduceEqDiff, Nat.reduceBEq, Nat.reduceAdd, Nat.reduceLeDiff, Nat.reduceMul, Nat.reduceLT, Int.reduceEq, Int.reduceLT, Int.reduceLE, o1, o2, o3, o4, o5, o6]
    refine acalls_borrow [(.vsl (p.map rExit) c6), (.vsl (p.map rExit) c10)] (.cons (froz_le z1 (own_le g2)) (.cons (.same _) .nil)) (c_eqExitS p c6 c10 _) rfl ?_
    simp +contextual -dsimp -implicitDefEqProofs (maxSteps := 5000000) only [go_sem, reduceIte, reduceCtorEq, Nat.reduceEqDiff, Nat.reduceBEq, Nat.reduceAdd, Nat.reduceLeDiff, Nat.reduceMul, Nat.reduceLT, Int.reduceEq, Int.reduceLT, Int.reduceLE, o1, o2, o3, o4, o5, o6]
    obtain ⟨A1, r1, g1'⟩ := res_down g1 g2
    obtain ⟨A2, r0, g0'⟩ := res_down g0 r1
    obtain ⟨A3, k1, k0⟩ := grow_swap g0' g1'
    refine (c_markTree A3 H3 x0 t 1 k0 (by omega) (by omega) (by omega)).mono ?_
    rintro _ H4 ⟨rfl, t', k0'⟩
    obtain ⟨A4, m0, m1⟩ := grow_swap k1 k0'
    simp +contextual -dsimp -implicitDefEqProofs (maxSteps := 5000000) only [go_sem, reduceIte, reduceCtorEq, Nat.reduceEqDiff, Nat.reduceBEq, Nat.reduceAdd, Nat.reduceLeDiff, Nat.reduceMul, Nat.reduceLT, Int.reduceEq, Int.reduceLT, Int.reduceLE, o1, o2, o3, o4, o5, o6]
    refine (c_markExitS A4 H4 x1 p _ m1 (by omega) (by omega) (by omega)).mono ?_
    rintro _ H5 ⟨rfl, p', m1'⟩
    obtain ⟨B1, n0, q1⟩ := res_up r0 m0
    obtain ⟨B2, n1, q2⟩ := res_up q1 m1'
    have hk : ¬ (1 + 2 * (t.length : Nat) + 3 * (p.length : Nat) : Int) < 0 := by omega
    simp +contextual -dsimp -implicitDefEqProofs (maxSteps := 5000000) only [go_sem, reduceIte, reduceCtorEq, Nat.reduceEqDiff, Nat.reduceBEq, Nat.reduceAdd, Nat.reduceLeDiff, Nat.reduceMul, Nat.reduceLT, Int.reduceEq, Int.reduceLT, Int.reduceLE, o1, o2, o3, o4, o5, o6, hk]
    obtain ⟨c11, c12, z3⟩ := own_froz q2
    refine acalls_borrow [aRes R c11 c12, aRes R false false] (.cons z3 (.cons (.same _) .nil)) (c_eqResult R c11 c12 false false _) rfl ?_
    simp +contextual -dsimp -implicitDefEqProofs (maxSteps := 5000000) only [go_sem, reduceIte, reduceCtorEq, Nat.reduceEqDiff, Nat.reduceBEq, Nat.reduceAdd, Nat.reduceLeDiff, Nat.reduceMul, Nat.reduceLT, Int.reduceEq, Int.reduceLT, Int.reduceLE, o1, o2, o3, o4, o5, o6, hk]
    refine (c_markResult B2 H5 _ R 1 q2 (by omega) (by omega) (by omega) (by omega)).mono ?_
    rintro _ H6 ⟨rfl, q3⟩
    obtain ⟨c13, c14, z4⟩ := own_froz q3
    have hheld := fun HH => c_heldResult R c13 c14 1 HH (by omega) (by omega) (by omega) (by omega)
    have hk2 : ¬ (1 + (R.log.length : Nat) + 5 * (R.heap.length : Nat) : Int) < 0 := by omega
    simp +contextual -dsimp -implicitDefEqProofs (maxSteps := 5000000) only [go_sem, reduceIte, reduceCtorEq, Nat.reduceEqDiff, Nat.reduceBEq, Nat.reduceAdd, Nat.reduceLeDiff, Nat.reduceMul, Nat.reduceLT, Int.reduceEq, Int.reduceLT, Int.reduceLE, o1, o2, o3, o4, o5, o6, hk2]
    refine acalls_borrow [aRes (markR R 1) c13 c14, I 1] (.cons z4 (.cons (.same _) .nil)) (hheld _) rfl ?_
    simp +contextual -dsimp -implicitDefEqProofs (maxSteps := 5000000) only [go_sem, reduceIte, reduceCtorEq, Nat.reduceEqDiff, Nat.reduceBEq, Nat.reduceAdd, Nat.reduceLeDiff, Nat.reduceMul, Nat.reduceLT, Int.reduceEq, Int.reduceLT, Int.reduceLE, o1, o2, o3, o4, o5, o6, hk2]
    refine draw_introQ [1,3,5,6] [1, 4, 0, 4, 1, 4, 4, 3, 2] (fun s => if s = 82 then aTree t false else if s = 84 then .vsl (p.map rExit) false else if s = 86 then .agg (rStart x) else aRes R false false) _ (by kernel_rfl) (AHeap.le_refl _) ?_
    simp +contextual -dsimp -implicitDefEqProofs (maxSteps := 5000000) only [go_sem, reduceIte, reduceCtorEq, Nat.reduceEqDiff, Nat.reduceBEq, Nat.reduceAdd, Nat.reduceLeDiff, Nat.reduceMul, Nat.reduceLT, Int.reduceEq, Int.reduceLT, Int.reduceLE, o1, o2, o3, o4, o5, o6, hk2]
    refine ⟨fun H' _ => q_toTree t cl H' tl2, fun H' _ => q_toExitS p cl' H' pl2, fun H' _ => c_toStart x H', fun H' _ => hmq H', ?_⟩
    intro b13 hb13
    refine ⟨le_set hb13, ?_⟩
    refine (c_eqResult R false false false false _).det ?_
    simp +contextual -dsimp -implicitDefEqProofs (maxSteps := 5000000) only [go_sem, reduceIte, reduceCtorEq, Nat.reduceEqDiff, Nat.reduceBEq, Nat.reduceAdd, Nat.reduceLeDiff, Nat.reduceMul, Nat.reduceLT, Int.reduceEq, Int.reduceLT, Int.reduceLE, o1, o2, o3, o4, o5, o6, hk2]
    refine acalls_borrow [aRes (markR R 1) c13 c14, I 1] (.cons z4 (.cons (.same _) .nil)) (hheld _) rfl ?_
    simp +contextual -dsimp -implicitDefEqProofs (maxSteps := 5000000) only [go_sem, reduceIte, reduceCtorEq, Nat.reduceEqDiff, Nat.reduceBEq, Nat.reduceAdd, Nat.reduceLeDiff, Nat.reduceMul, Nat.reduceLT, Int.reduceEq, Int.reduceLT, Int.reduceLE, o1, o2, o3, o4, o5, o6, hk2]
    refine retR_less (l := [B true]) (H' := H) ?_ (AHeap.le_trans (grow_le n0) (AHeap.le_trans (grow_le n1) (own_le q3))) ⟨rfl, rfl⟩
    simp only [resA, go_sem, reduceIte, reduceCtorEq, Nat.reduceEqDiff, Nat.reduceBEq, Nat.reduceAdd, Nat.reduceLeDiff, Nat.reduceMul, Nat.reduceLT, Int.reduceEq, Int.reduceLT, Int.reduceLE]
  · refine (c_toStart x _).det ?_
    simp +contextual -dsimp -implicitDefEqProofs (maxSteps := 5000000) only [go_sem, reduceIte, reduceCtorEq, Nat.reduceEqDiff, Nat.reduceBEq, Nat.reduceAdd, Nat.reduceLeDiff, Nat.reduceMul, Nat.reduceLT, Int.reduceEq, Int.reduceLT, Int.reduceLE, tx_go, tx_nil, List.getD_cons_succ, List.getD_cons_zero, o1, o2, o3, o4]
    refine ⟨fun b11 hb11 => ⟨le_set hb11, ?_⟩, ?_⟩
    · refine lend_res [aTree t c5, .vsl (p.map rExit) c6, .agg (rStart x)] (.cons (froz_le z0' (le_set hb11)) (.cons (froz_le z1 (le_set hb11)) (.cons (.same _) .nil))) (hm c5 c6 _) ?_
      intro r HH g2
      obtain ⟨H3, rfl, g2, n11⟩ := own_out g2 hb11
      obtain ⟨xl, xh, hr, o5, o6⟩ := own_row g2
      subst hr
      simp +contextual -dsimp -implicitDefEqProofs (maxSteps := 5000000) only [go_sem, reduceIte, reduceCtorEq, Nat.reduceEqDiff, Nat.reduceBEq, Nat.reduceAdd, Nat.reduceLeDiff, Nat.reduceMul, Nat.reduceLT, Int.reduceEq, Int.reduceLT, Int.reduceLE, o1, o2, o3, o4, o5, o6, n11]
      obtain ⟨c7, c8, z2⟩ := own_froz g2
      refine acalls_borrow [aRes R c7 c8, aRes R false false] (.cons z2 (.cons (.same _) .nil)) (c_eqResult R c7 c8 false false _) rfl ?_
      simp +contextual -dsimp -implicitDefEqProofs (maxSteps := 5000000) only [go_sem, reduceIte, reduceCtorEq, Nat.reduceEqDiff, Nat.reduceBEq, Nat.reduceAdd, Nat.reduceLeDiff, Nat.reduceMul, Nat.reduceLT, Int.reduceEq, Int.reduceLT, Int.reduceLE, o1, o2, o3, o4, o5, o6]
      refine draw_intro [1, 0, 3, 2, 0] _ (by kernel_rfl) (AHeap.le_refl _) ?_
      simp +contextual -dsimp -implicitDefEqProofs (maxSteps := 5000000) only [go_sem, reduceIte, reduceCtorEq, Nat.reduceEqDiff, Nat.reduceBEq, Nat.reduceAdd, Nat.reduceLeDiff, Nat.reduceMul, Nat.reduceLT, Int.reduceEq, Int.reduceLT, Int.reduceLE, o1, o2, o3, o4, o5, o6]
      refine acalls_frzA (c_toTree0 t cl _ (htl (by omega))) fun c9 => ?_
      simp +contextual -dsimp -implicitDefEqProofs (maxSteps := 5000000) only [go_sem, reduceIte, reduceCtorEq, Nat.reduceEqDiff, Nat.reduceBEq, Nat.reduceAdd, Nat.reduceLeDiff, Nat.reduceMul, Nat.reduceLT, Int.reduceEq, Int.reduceLT, Int.reduceLE, o1, o2, o3, o4, o5, o6]
      refine acalls_borrow [aTree t c5, aTree t c9] (.cons (agg1_froz (froz_le z0 (AHeap.le_trans (grow_le g1) (own_le g2)))) (.cons (.same _) .nil)) (c_eqTree t c5 c9 _) rfl ?_
      simp +contextual -dsimp -implicitDefEqProofs (maxSteps := 5000000) only [go_sem, reduceIte, reduceCtorEq, Nat.reduceEqDiff, Nat.reduceBEq, Nat.reduceAdd, Nat.reduceLeDiff, Nat.reduceMul, Nat.reduceLT, Int.reduceEq, Int.reduceLT, Int.reduceLE, o1, o2, o3, o4, o5, o6]
      refine acalls_frz (c_toExitS p cl' _ (hpl (by omega))) fun c10 => ?_
      simp +contextual -dsimp -implicitDefEqProofs (maxSteps := 5000000) only [go_sem, reduceIte, reduceCtorEq, Nat.reduceEqDiff, Nat.reduceBEq, Nat.reduceAdd, Nat.reduceLeDiff, Nat.reduceMul, Nat.reduceLT, Int.reduceEq, Int.reduceLT, Int.reduceLE, o1, o2, o3, o4, o5, o6]
      refine acalls_borrow [(.vsl (p.map rExit) c6), (.vsl (p.map rExit) c10)] (.cons (froz_le z1 (own_le g2)) (.cons (.same _) .nil)) (c_eqExitS p c6 c10 _) rfl ?_
      simp +contextual -dsimp -implicitDefEqProofs (maxSteps := 5000000) only [go_sem, reduceIte, reduceCtorEq, Nat.reduceEqDiff, Nat.reduceBEq, Nat.reduceAdd, Nat.reduceLeDiff, Nat.reduceMul, Nat.reduceLT, Int.reduceEq, Int.reduceLT, Int.reduceLE, o1, o2, o3, o4, o5, o6]
      obtain ⟨A1, r1, g1'⟩ := res_down g1 g2
      obtain ⟨A2, r0, g0'⟩ := res_down g0 r1
      obtain ⟨A3, k1, k0⟩ := grow_swap g0' g1'
      refine (c_markTree A3 H3 x0 t 1 k0 (by omega) (by omega) (by omega)).mono ?_
      rintro _ H4 ⟨rfl, t', k0'⟩
      obtain ⟨A4, m0, m1⟩ := grow_swap k1 k0'
      simp +contextual -dsimp -implicitDefEqProofs (maxSteps := 5000000) only [go_sem, reduceIte, reduceCtorEq, Nat.reduceEqDiff, Nat.reduceBEq, Nat.reduceAdd, Nat.reduceLeDiff, Nat.reduceMul, Nat.reduceLT, Int.reduceEq, Int.reduceLT, Int.reduceLE, o1, o2, o3, o4, o5, o6]
      refine (c_markExitS A4 H4 x1 p _ m1 (by omega) (by omega) (by omega)).mono ?_
      rintro _ H5 ⟨rfl, p', m1'⟩
      obtain ⟨B1, n0, q1⟩ := res_up r0 m0
      obtain ⟨B2, n1, q2⟩ := res_up q1 m1'
      have hk : ¬ (1 + 2 * (t.length : Nat) + 3 * (p.length : Nat) : Int) < 0 := by omega
      simp +contextual -dsimp -implicitDefEqProofs (maxSteps := 5000000) only [go_sem, reduceIte, reduceCtorEq, Nat.reduceEqDiff, Nat.reduceBEq, Nat.reduceAdd, Nat.reduceLeDiff, Nat.reduceMul, Nat.reduceLT, Int.reduceEq, Int.reduceLT, Int.reduceLE, o1, o2, o3, o4, o5, o6, hk]
      obtain ⟨c11, c12, z3⟩ := own_froz q2
      refine acalls_borrow [aRes R c11 c12, aRes R false false] (.cons z3 (.cons (.same _) .nil)) (c_eqResult R c11 c12 false false _) rfl ?_
      simp +contextual -dsimp -implicitDefEqProofs (maxSteps := 5000000) only [go_sem, reduceIte, reduceCtorEq, Nat.reduceEqDiff, Nat.reduceBEq, Nat.reduceAdd, Nat.reduceLeDiff, Nat.reduceMul, Nat.reduceLT, Int.reduceEq, Int.reduceLT, Int.reduceLE, o1, o2, o3, o4, o5, o6, hk]
      refine (c_markResult B2 H5 _ R 1 q2 (by omega) (by omega) (by omega) (by omega)).mono ?_
      rintro _ H6 ⟨rfl, q3⟩
      obtain ⟨c13, c14, z4⟩ := own_froz q3
      have hheld := fun HH => c_heldResult R c13 c14 1 HH (by omega) (by omega) (by omega) (by omega)
      have hk2 : ¬ (1 + (R.log.length : Nat) + 5 * (R.heap.length : Nat) : Int) < 0 := by omega
      simp +contextual -dsimp -implicitDefEqProofs (maxSteps := 5000000) only [go_sem, reduceIte, reduceCtorEq, Nat.reduceEqDiff, Nat.reduceBEq, Nat.reduceAdd, Nat.reduceLeDiff, Nat.reduceMul, Nat.reduceLT, Int.reduceEq, Int.reduceLT, Int.reduceLE, o1, o2, o3, o4, o5, o6, hk2]
      refine acalls_borrow [aRes (markR R 1) c13 c14, I 1] (.cons z4 (.cons (.same _) .nil)) (hheld _) rfl ?_
      simp +contextual -dsimp -implicitDefEqProofs (maxSteps := 5000000) only [go_sem, reduceIte, reduceCtorEq, Nat.reduceEqDiff, Nat.reduceBEq, Nat.reduceAdd, Nat.reduceLeDiff, Nat.reduceMul, Nat.reduceLT, Int.reduceEq, Int.reduceLT, Int.reduceLE, o1, o2, o3, o4, o5, o6, hk2]
      refine draw_introQ [1,3,5,6] [1, 4, 0, 4, 1, 4, 4, 3, 2] (fun s => if s = 82 then aTree t false else if s = 84 then .vsl (p.map rExit) false else if s = 86 then .agg (rStart x) else aRes R false false) _ (by kernel_rfl) (AHeap.le_refl _) ?_
      simp +contextual -dsimp -implicitDefEqProofs (maxSteps := 5000000) only [go_sem, reduceIte, reduceCtorEq, Nat.reduceEqDiff, Nat.reduceBEq, Nat.reduceAdd, Nat.reduceLeDiff, Nat.reduceMul, Nat.reduceLT, Int.reduceEq, Int.reduceLT, Int.reduceLE, o1, o2, o3, o4, o5, o6, hk2]
      refine ⟨fun H' _ => q_toTree t cl H' tl2, fun H' _ => q_toExitS p cl' H' pl2, fun H' _ => c_toStart x H', fun H' _ => hmq H', ?_⟩
      intro b13 hb13
      refine ⟨le_set hb13, ?_⟩
      refine (c_eqResult R false false false false _).det ?_
      simp +contextual -dsimp -implicitDefEqProofs (maxSteps := 5000000) only [go_sem, reduceIte, reduceCtorEq, Nat.reduceEqDiff, Nat.reduceBEq, Nat.reduceAdd, Nat.reduceLeDiff, Nat.reduceMul, Nat.reduceLT, Int.reduceEq, Int.reduceLT, Int.reduceLE, o1, o2, o3, o4, o5, o6, hk2]
      refine acalls_borrow [aRes (markR R 1) c13 c14, I 1] (.cons z4 (.cons (.same _) .nil)) (hheld _) rfl ?_
      simp +contextual -dsimp -implicitDefEqProofs (maxSteps := 5000000) only [go_sem, reduceIte, reduceCtorEq, Nat.reduceEqDiff, Nat.reduceBEq, Nat.reduceAdd, Nat.reduceLeDiff, Nat.reduceMul, Nat.reduceLT, Int.reduceEq, Int.reduceLT, Int.reduceLE, o1, o2, o3, o4, o5, o6, hk2]
      refine retR_less (l := [B true]) (H' := H) ?_ (AHeap.le_trans (grow_le n0) (AHeap.le_trans (grow_le n1) (own_le q3))) ⟨rfl, rfl⟩
      simp only [resA, go_sem, reduceIte, reduceCtorEq, Nat.reduceEqDiff, Nat.reduceBEq, Nat.reduceAdd, Nat.reduceLeDiff, Nat.reduceMul, Nat.reduceLT, Int.reduceEq, Int.reduceLT, Int.reduceLE]
    · refine lend_res [aTree t c5, .vsl (p.map rExit) c6, .agg (rStart x)] (.cons z0' (.cons z1 (.cons (.same _) .nil))) (hm c5 c6 _) ?_
      intro r H3 g2
      obtain ⟨xl, xh, hr, o5, o6⟩ := own_row g2
      subst hr
      simp +contextual -dsimp -implicitDefEqProofs (maxSteps := 5000000) only [go_sem, reduceIte, reduceCtorEq, Nat.reduceEqDiff, Nat.reduceBEq, Nat.reduceAdd, Nat.reduceLeDiff, Nat.reduceMul, Nat.reduceLT, Int.reduceEq, Int.reduceLT, Int.reduceLE, tx_go, tx_nil, List.getD_cons_succ, List.getD_cons_zero, o1, o2, o3, o4, o5, o6]
      intro b11 n11
      refine ⟨AHeap.le_trans (own_le g2) (le_set n11), ?_⟩
      obtain ⟨c7, c8, z2⟩ := own_froz g2
      refine acalls_borrow [aRes R c7 c8, aRes R false false] (.cons z2 (.cons (.same _) .nil)) (c_eqResult R c7 c8 false false _) rfl ?_
      simp +contextual -dsimp -implicitDefEqProofs (maxSteps := 5000000) only [go_sem, reduceIte, reduceCtorEq, Nat.reduceEqDiff, Nat.reduceBEq, Nat.reduceAdd, Nat.reduceLeDiff, Nat.reduceMul, Nat.reduceLT, Int.reduceEq, Int.reduceLT, Int.reduceLE, o1, o2, o3, o4, o5, o6]
      refine draw_intro [1, 0, 3, 2, 0] _ (by kernel_rfl) (AHeap.le_refl _) ?_
      simp +contextual -dsimp -implicitDefEqProofs (maxSteps := 5000000) only [go_sem, reduceIte, reduceCtorEq, Nat.reduceEqDiff, Nat.reduceBEq, Nat.reduceAdd, Nat.reduceLeDiff, Nat.reduceMul, Nat.reduceLT, Int.reduceEq, Int.reduceLT, Int.reduceLE, o1, o2, o3, o4, o5, o6]
      refine acalls_frzA (c_toTree0 t cl _ (htl (by omega))) fun c9 => ?_
      simp +contextual -dsimp -implicitDefEqProofs (maxSteps := 5000000) only [go_sem, reduceIte, reduceCtorEq, Nat.reduceEqDiff, Nat.reduceBEq, Nat.reduceAdd, Nat.reduceLeDiff, Nat.reduceMul, Nat.reduceLT, Int.reduceEq, Int.reduceLT, Int.reduceLE, o1, o2, o3, o4, o5, o6]
      refine acalls_borrow [aTree t c5, aTree t c9] (.cons (agg1_froz (froz_le z0 (AHeap.le_trans (grow_le g1) (own_le g2)))) (.cons (.same _) .nil)) (c_eqTree t c5 c9 _) rfl ?_
      simp +contextual -dsimp -implicitDefEqProofs (maxSteps := 5000000) only [go_sem, reduceIte, reduceCtorEq, Nat.reduceEqDiff, Nat.reduceBEq, Nat.reduceAdd, Nat.reduceLeDiff, Nat.reduceMul, Nat.reduceLT, Int.reduceEq, Int.reduceLT, Int.reduceLE, o1, o2, o3, o4, o5, o6]
      refine acalls_frz (c_toExitS p cl' _ (hpl (by omega))) fun c10 => ?_
      simp +contextual -dsimp -implicitDefEqProofs (maxSteps := 5000000) only [go_sem, reduceIte, reduceCtorEq, Nat.reduceEqDiff, Nat.reduceBEq, Nat.reduceAdd, Nat.reduceLeDiff, Nat.reduceMul, Nat.reduceLT, Int.reduceEq, Int.reduceLT, Int.reduceLE, o1, o2, o3, o4, o5, o6]
      refine acalls_borrow [(.vsl (p.map rExit) c6), (.vsl (p.map rExit) c10)] (.cons (froz_le z1 (own_le g2)) (.cons (.same _) .nil)) (c_eqExitS p c6 c10 _) rfl ?_
      simp +contextual -dsimp -implicitDefEqProofs (maxSteps := 5000000) only [go_sem, reduceIte, reduceCtorEq, Nat.reduceEqDiff, Nat.reduceBEq, Nat.reduceAdd, Nat.reduceLeDiff, Nat.reduceMul, Nat.reduceLT, Int.reduceEq, Int.reduceLT, Int.reduceLE, o1, o2, o3, o4, o5, o6]
      obtain ⟨A1, r1, g1'⟩ := res_down g1 g2
      obtain ⟨A2, r0, g0'⟩ := res_down g0 r1
      obtain ⟨A3, k1, k0⟩ := grow_swap g0' g1'
      refine (c_markTree A3 H3 x0 t 1 k0 (by omega) (by omega) (by omega)).mono ?_
      rintro _ H4 ⟨rfl, t', k0'⟩
      obtain ⟨A4, m0, m1⟩ := grow_swap k1 k0'
      simp +contextual -dsimp -implicitDefEqProofs (maxSteps := 5000000) only [go_sem, reduceIte, reduceCtorEq, Nat.reduceEqDiff, Nat.reduceBEq, Nat.reduceAdd, Nat.reduceLeDiff, Nat.reduceMul, Nat.reduceLT, Int.reduceEq, Int.reduceLT, Int.reduceLE, o1, o2, o3, o4, o5, o6]
      refine (c_markExitS A4 H4 x1 p _ m1 (by omega) (by omega) (by omega)).mono ?_
      rintro _ H5 ⟨rfl, p', m1'⟩
      obtain ⟨B1, n0, q1⟩ := res_up r0 m0
      obtain ⟨B2, n1, q2⟩ := res_up q1 m1'
      have hk : ¬ (1 + 2 * (t.length : Nat) + 3 * (p.length : Nat) : Int) < 0 := by omega
      simp +contextual -dsimp -implicitDefEqProofs (maxSteps := 5000000) only [go_sem, reduceIte, reduceCtorEq, Nat.reduceEqDiff, Nat.reduceBEq, Nat.reduceAdd, Nat.reduceLeDiff, Nat.reduceMul, Nat.reduceLT, Int.reduceEq, Int.reduceLT, Int.reduceLE, o1, o2, o3, o4, o5, o6, hk]
      obtain ⟨c11, c12, z3⟩ := own_froz q2
      refine acalls_borrow [aRes R c11 c12, aRes R false false] (.cons z3 (.cons (.same _) .nil)) (c_eqResult R c11 c12 false false _) rfl ?_
      simp +contextual -dsimp -implicitDefEqProofs (maxSteps := 5000000) only [go_sem, reduceIte, reduceCtorEq, Nat.reduceEqDiff, Nat.reduceBEq, Nat.reduceAdd, Nat.reduceLeDiff, Nat.reduceMul, Nat.reduceLT, Int.reduceEq, Int.reduceLT, Int.reduceLE, o1, o2, o3, o4, o5, o6, hk]
      refine (c_markResult B2 H5 _ R 1 q2 (by omega) (by omega) (by omega) (by omega)).mono ?_
      rintro _ H6 ⟨rfl, q3⟩
      obtain ⟨c13, c14, z4⟩ := own_froz q3
      have hheld := fun HH => c_heldResult R c13 c14 1 HH (by omega) (by omega) (by omega) (by omega)
      have hk2 : ¬ (1 + (R.log.length : Nat) + 5 * (R.heap.length : Nat) : Int) < 0 := by omega
      simp +contextual -dsimp -implicitDefEqProofs (maxSteps := 5000000) only [go_sem, reduceIte, reduceCtorEq, Nat.reduceEqDiff, Nat.reduceBEq, Nat.reduceAdd, Nat.reduceLeDiff, Nat.reduceMul, Nat.reduceLT, Int.reduceEq, Int.reduceLT, Int.reduceLE, o1, o2, o3, o4, o5, o6, hk2]
      refine acalls_borrow [aRes (markR R 1) c13 c14, I 1] (.cons z4 (.cons (.same _) .nil)) (hheld _) rfl ?_
      simp +contextual -dsimp -implicitDefEqProofs (maxSteps := 5000000) only [go_sem, reduceIte, reduceCtorEq, Nat.reduceEqDiff, Nat.reduceBEq, Nat.reduceAdd, Nat.reduceLeDiff, Nat.reduceMul, Nat.reduceLT, Int.reduceEq, Int.reduceLT, Int.reduceLE, o1, o2, o3, o4, o5, o6, hk2]
      refine draw_introQ [1,3,5,6] [1, 4, 0, 4, 1, 4, 4, 3, 2] (fun s => if s = 82 then aTree t false else if s = 84 then .vsl (p.map rExit) false else if s = 86 then .agg (rStart x) else aRes R false false) _ (by kernel_rfl) (AHeap.le_refl _) ?_
      simp +contextual -dsimp -implicitDefEqProofs (maxSteps := 5000000) only [go_sem, reduceIte, reduceCtorEq, Nat.reduceEqDiff, Nat.reduceBEq, Nat.reduceAdd, Nat.reduceLeDiff, Nat.reduceMul, Nat.reduceLT, Int.reduceEq, Int.reduceLT, Int.reduceLE, o1, o2, o3, o4, o5, o6, hk2]
      refine ⟨fun H' _ => q_toTree t cl H' tl2, fun H' _ => q_toExitS p cl' H' pl2, fun H' _ => c_toStart x H', fun H' _ => hmq H', ?_⟩
      intro b13 hb13
      refine ⟨le_set hb13, ?_⟩
      refine (c_eqResult R false false false false _).det ?_
      simp +contextual -dsimp -implicitDefEqProofs (maxSteps := 5000000) only [go_sem, reduceIte, reduceCtorEq, Nat.reduceEqDiff, Nat.reduceBEq, Nat.reduceAdd, Nat.reduceLeDiff, Nat.reduceMul, Nat.reduceLT, Int.reduceEq, Int.reduceLT, Int.reduceLE, o1, o2, o3, o4, o5, o6, hk2]
      refine acalls_borrow [aRes (markR R 1) c13 c14, I 1] (.cons z4 (.cons (.same _) .nil)) (hheld _) rfl ?_
      simp +contextual -dsimp -implicitDefEqProofs (maxSteps := 5000000) only [go_sem, reduceIte, reduceCtorEq, Nat.reduceEqDiff, Nat.reduceBEq, Nat.reduceAdd, Nat.reduceLeDiff, Nat.reduceMul, Nat.reduceLT, Int.reduceEq, Int.reduceLT, Int.reduceLE, o1, o2, o3, o4, o5, o6, hk2]
      refine retR_less (l := [B true]) (H' := H) ?_ (AHeap.le_trans (grow_le n0) (AHeap.le_trans (grow_le n1) (own_le q3))) ⟨rfl, rfl⟩
      simp only [resA, go_sem, reduceIte, reduceCtorEq, Nat.reduceEqDiff, Nat.reduceBEq, Nat.reduceAdd, Nat.reduceLeDiff, Nat.reduceMul, Nat.reduceLT, Int.reduceEq, Int.reduceLT, Int.reduceLE]
end
end
end Go.Proofs.YtjpfgafdjlkblaaGreat
