/- Walks and plain laws that the claims of this seat lean on. No condition. -/
import Derived.Test.YtjpfgafdjlkblaaGreatJ3
import Derived.Test.YtjpfgafdjlkblaaGreatJ2
import Derived.Test.YtjpfgafdjlkblaaGreatSimY
import Derived.Lib.ItoaNum
import Derived.Test.YtjpfgafdjlkblaaGreatJ1
set_option linter.unusedVariables false
set_option linter.unusedSimpArgs false
namespace Go.Proofs.YtjpfgafdjlkblaaGreat
open Go Go.Sim
section
open Go Go.Sim
set_option maxRecDepth 100000

def mapA (g : Int → Int) : Fo → Fo
 | .nil => .nil
 | .node k a b kids rest => .node k (if k = 1 then g a else a) b (mapA g kids) (mapA g rest)
theorem mapA_id : ∀ f : Fo, mapA (fun a => a) f = f
 | .nil => rfl
 | .node k a b kids rest => by simp only [mapA,mapA_id kids,mapA_id rest,ite_self]
def noAg : Fo → Bool
 | .nil => true
 | .node k _ _ kids rest => !decide (k = 3) && (noAg kids && noAg rest)
def shv (n : Nat) (v : Int) : Int := if 0 ≤ v then v + n else v
def shf (n : Nat) (x : Fault) : Fault := { x with cause := shv n x.cause, ctx := shv n x.ctx }
theorem shv_zero (v : Int) : shv 0 v = v := by unfold shv; split <;> simp
theorem shf_zero (x : Fault) : shf 0 x = x := by simp [shf, shv_zero]
structure SimP where
 LR : List Int → List Int → Prop
 F : List Fault
 wk : Bool
structure SR (P : SimP) (s s' : RS) : Prop where
 log : P.LR s.log s'.log
 fs : ∃ X, s'.fs = P.F ++ X ∧ (P.wk = true → X.map (·.cls) = s.fs.map (·.cls)) ∧ (P.wk = false → X = s.fs.map (shf P.F.length))
def ER (P : SimP) (e e' : En) : Prop := e'.ed = e.ed ∧ (e.ed = 2 → 0 ≤ e.val ∧ e'.val = e.val + P.F.length) ∧ (e.ed ≠ 2 → e'.val = e.val)
def HR (P : SimP) (h h' : Int) : Prop := (0 ≤ h ∧ h' = h + P.F.length) ∨ (h < 0 ∧ (P.wk = true ∨ h' < 0))
def RR (P : SimP) (r r' : En × RS) : Prop := ER P r.1 r'.1 ∧ SR P r.2 r'.2
def PR (P : SimP) : Option (En × En) → Option (En × En) → Prop
 | none, none => True
 | some q, some q' => ER P q.1 q'.1 ∧ ER P q.2 q'.2
 | _, _ => False
section
variable {P : SimP}
theorem er_same {e : En} (h : e.ed ≠ 2) : ER P e e := ⟨rfl, fun q => absurd q h, fun _ => rfl⟩
theorem SR.len {s s' : RS} (h : SR P s s') : s'.fs.length = P.F.length + s.fs.length := by
 obtain ⟨X, e, h1, h2⟩ := h.fs
 have : X.length = s.fs.length := by
  cases hw : P.wk
  ·rw [h2 hw, List.length_map]
  ·have := congrArg List.length (h1 hw)
   simpa using this
 rw [e, List.length_append, this]
theorem SR.cls {s s' : RS} (h : SR P s s') {v : Int} (hv : 0 ≤ v) : clsOf s' (v + P.F.length) = clsOf s v := by
 obtain ⟨X, e, h1, h2⟩ := h.fs
 have hc : X.map (·.cls) = s.fs.map (·.cls) := by
  cases hw : P.wk
  ·rw [h2 hw, List.map_map]; rfl
  ·exact h1 hw
 have hg : ∀ (l : List Fault) (k : Nat), (l.getD k default).cls = (l.map (·.cls)).getD k (default : Fault).cls := fun l k => by
  simp only [List.getD_eq_getElem?_getD,List.getElem?_map]
  cases l[k]? <;> rfl
 unfold clsOf
 have e2 : (v + (P.F.length : Int)).toNat = P.F.length + v.toNat := by omega
 rw [e, e2]
 have e3 : (P.F ++ X).getD (P.F.length + v.toNat) default = X.getD v.toNat default := by
  simp only [List.getD_eq_getElem?_getD]
  rw [List.getElem?_append_right (by omega), Nat.add_sub_cancel_left]
 rw [e3, hg, hg, hc]
theorem SR.tell {s s' : RS} (h : SR P s s') {n n' : Int} (hl : P.LR s.log s'.log → P.LR (s.log ++ [n]) (s'.log ++ [n'])) : SR P (s.tell n) (s'.tell n') := ⟨hl h.log, h.fs⟩
theorem SR.jump {s s' : RS} (h : SR P s s') (k : Int) (i i' : Nat) : SR P (s.jump k i) (s'.jump k i') := by
 unfold RS.jump
 constructor
 ·split <;> split <;> exact h.log
 ·split <;> split <;> exact h.fs
theorem SR.raise {s s' : RS} (h : SR P s s') (c d : Int) {g g' : Int} (hg : HR P g g') : SR P (s.raise c d g) (s'.raise c d g') := by
 refine ⟨h.log, ?_⟩
 obtain ⟨X, e, h1, h2⟩ := h.fs
 refine ⟨X ++ [⟨c, d, -1, if 0 ≤ g' then g' else -1, false⟩], ?_, fun q => ?_, fun q => ?_⟩
 ·show raiseF s'.fs c d g' = _
  unfold raiseF
  rw [e, List.append_assoc]
 ·show _ = (raiseF s.fs c d g).map (·.cls)
  unfold raiseF
  rw [List.map_append, List.map_append, h1 q]; rfl
 ·show _ = (raiseF s.fs c d g).map (shf P.F.length)
  unfold raiseF
  rw [List.map_append, ← h2 q]
  congr 1
  rcases hg with ⟨g0, rfl⟩ | ⟨g0, g1⟩
  ·have h3 : 0 ≤ g + (P.F.length : Int) := by omega
   simp [shf, shv, g0, h3]
  ·have g2 : g' < 0 := by
    rcases g1 with g1 | g1
    ·rw [q] at g1; cases g1
    ·exact g1
   have n1 : ¬ 0 ≤ g := by omega
   have n2 : ¬ 0 ≤ g' := by omega
   simp [shf, shv, n1, n2]
theorem SR.raised {s s' : RS} (h : SR P s s') : ER P ⟨2, s.fs.length⟩ ⟨2, s'.fs.length⟩ := by
 refine ⟨rfl, fun _ => ⟨by show (0 : Int) ≤ s.fs.length; omega, ?_⟩, fun q => absurd rfl q⟩
 show (s'.fs.length : Int) = s.fs.length + P.F.length
 rw [h.len]; omega
theorem SR.line {g : Int → Int} (hA : ∀ l l' a, P.LR l l' → P.LR (l ++ [a]) (l' ++ [g a])) {s s' : RS} (h : SR P s s') (k a b : Int) {h0 h1 : Int} (hh : HR P h0 h1) (hk : P.wk = true → k ≠ 3) : RR P (lineS k a b h0 s) (lineS k (if k = 1 then g a else a) b h1 s') := by
 unfold lineS
 by_cases k1 : k = 1
 ·simp only [k1,if_true]
  exact ⟨er_same (by show (0 : Int) ≠ 2; decide), h.tell fun q => hA _ _ a q⟩
 simp only [k1,if_false]
 by_cases k2 : k = 2
 ·simp only [k2,if_true]
  exact ⟨h.raised, h.raise a b hh⟩
 simp only [k2,if_false]
 by_cases k3 : k = 3
 ·simp only [k3,if_true]
  have hw : P.wk = false := by
   cases q : P.wk
   ·rfl
   ·exact absurd k3 (hk q)
  rcases hh with ⟨g0, rfl⟩ | ⟨g0, g1⟩
  ·rw [if_neg (by omega), if_neg (by omega)]
   exact ⟨⟨rfl, fun _ => ⟨g0, rfl⟩, fun q => absurd rfl q⟩, h⟩
  ·have g2 : h1 < 0 := by
    rcases g1 with g1 | g1
    ·rw [hw] at g1; cases g1
    ·exact g1
   rw [if_pos g0, if_pos g2]
   exact ⟨h.raised, h.raise 0 0 (.inr ⟨by decide, .inr (by decide)⟩)⟩
 simp only [k3,if_false]
 by_cases k4 : k = 4
 ·simp only [k4,if_true]; exact ⟨er_same (by show (1 : Int) ≠ 2; decide),h⟩
 simp only [k4,if_false]
 by_cases k5 : k = 5
 ·simp only [k5,if_true]; exact ⟨er_same (by show (3 : Int) ≠ 2; decide),h⟩
 simp only [k5,if_false]
 by_cases k6 : k = 6
 ·simp only [k6,if_true]; exact ⟨er_same (by show (4 : Int) ≠ 2; decide),h⟩
 simp only [k6,if_false]
 exact ⟨er_same (by show (0 : Int) ≠ 2; decide), h⟩
theorem rr_loop {b b' : RS → En × RS} (hb : ∀ s s', SR P s s' → RR P (b s) (b' s')) : ∀ (n : Nat) (s s' : RS), SR P s s' → RR P (loopS b n s) (loopS b' n s')
 | 0, s, s', h => ⟨er_same (by show (0 : Int) ≠ 2; decide), h⟩
 | n + 1, s, s', h => by
  have h1 := hb s s' h
  simp only [loopS]
  rw [h1.1.1]
  split
  ·exact h1
  ·split
   ·exact ⟨er_same (by show (0 : Int) ≠ 2; decide), h1.2⟩
   ·exact rr_loop hb n _ _ h1.2
theorem noAg_node {k a b : Int} {kids rest : Fo} (h : noAg (.node k a b kids rest) = true) : k ≠ 3 ∧ noAg kids = true ∧ noAg rest = true := by
 simpa [noAg] using h
end
theorem sim_run {P : SimP} {g : Int → Int} (hA : ∀ l l' a, P.LR l l' → P.LR (l ++ [a]) (l' ++ [g a])) (hB : ∀ l l' a, P.LR l l' → P.LR (l ++ [a]) (l' ++ [a])) (t : List Class) :
  ∀ (f : Fo) (i i' : Nat) (pd pd' : Option (En × En)) (h h' : Int) (s s' : RS), (P.wk = true → noAg f = true) → PR P pd pd' → HR P h h' → SR P s s' → RR P (runF t f i pd h s) (runF t (mapA g f) i' pd' h' s') := by
 intro f
 induction f with
 | nil =>
  intro i i' pd pd' h h' s s' _ hp _ hs
  cases pd with
  | none =>
   cases pd' with
   | none => exact ⟨er_same (by show (0 : Int) ≠ 2; decide), hs⟩
   | some q' => exact absurd hp id
  | some q =>
   cases pd' with
   | none => exact absurd hp id
   | some q' =>
    simp only [runF,mapA]
    rw [hp.2.1]
    split
    ·exact ⟨er_same (by show (0 : Int) ≠ 2; decide), hs⟩
    ·exact ⟨hp.2, hs⟩
 | node k a b kids rest ihk ihr =>
  intro i i' pd pd' h h' s s' hn hp hh hs
  have nk : P.wk = true → k ≠ 3 := fun q => (noAg_node (hn q)).1
  have n1 : P.wk = true → noAg kids = true := fun q => (noAg_node (hn q)).2.1
  have n2 : P.wk = true → noAg rest = true := fun q => (noAg_node (hn q)).2.2
  have el : mapA g (.node k a b kids rest) = .node k (if k = 1 then g a else a) b (mapA g kids) (mapA g rest) := rfl
  have hline : k ≠ 7 → RR P ((fun r : En × RS => if r.1.ed = 0 then runF t rest (i + 1 + kids.size) none h r.2 else r) (lineR k a b i h (fun s => runF t kids (i + 1) none h s) s)) ((fun r : En × RS => if r.1.ed = 0 then runF t (mapA g rest) (i' + 1 + (mapA g kids).size) none h' r.2 else r) (lineR k (if k = 1 then g a else a) b i' h' (fun s => runF t (mapA g kids) (i' + 1) none h' s) s')) := by
   intro _
   have h1 : RR P (lineR k a b i h (fun s => runF t kids (i + 1) none h s) s) (lineR k (if k = 1 then g a else a) b i' h' (fun s => runF t (mapA g kids) (i' + 1) none h' s) s') := by
    unfold lineR
    by_cases k11 : k = 11
    ·rw [if_pos k11, if_pos k11, if_neg (by omega)]
     have h2 := ihk (i + 1) (i' + 1) none none h h' (s.tell (100 + a)) (s'.tell (100 + a)) n1 trivial hh (hs.tell fun q => hB _ _ _ q)
     unfold withS
     rw [h2.1.1]
     refine ⟨?_, h2.2.tell fun q => hB _ _ _ q⟩
     show ER P (if _ then _ else _) (if _ then _ else _)
     split
     ·exact er_same (by show (0 : Int) ≠ 2; decide)
     ·exact h2.1
    ·rw [if_neg k11, if_neg k11]
     by_cases k12 : k = 12
     ·rw [if_pos k12, if_pos k12, if_neg (by omega)]
      exact rr_loop (fun s s' hs => ihk (i + 1) (i' + 1) none none h h' s s' n1 trivial hh hs) _ _ _ hs
     ·rw [if_neg k12, if_neg k12]
      exact (hs.jump k i i').line hA k a b hh nk
   generalize lineR k a b i h (fun s => runF t kids (i + 1) none h s) s = r at h1 ⊢
   generalize lineR k (if k = 1 then g a else a) b i' h' (fun s => runF t (mapA g kids) (i' + 1) none h' s) s' = r' at h1 ⊢
   show RR P (if r.1.ed = 0 then _ else r) (if r'.1.ed = 0 then _ else r')
   rw [h1.1.1]
   split
   ·exact ihr _ _ none none h h' _ _ n2 trivial hh h1.2
   ·exact h1
  have go : ∀ (g0 g1 : Int) (st st' : En) (e e' : En → En), HR P g0 g1 → ER P st st' → (∀ x x', ER P x x' → ER P (e x) (e' x')) → RR P ((fun r : En × RS => runF t rest (i + 1 + kids.size) (some (st, e r.1)) h r.2) (runF t kids (i + 1) none g0 s)) ((fun r : En × RS => runF t (mapA g rest) (i' + 1 + (mapA g kids).size) (some (st', e' r.1)) h' r.2) (runF t (mapA g kids) (i' + 1) none g1 s')) := by
   intro g0 g1 st st' e e' hg hst he
   have h1 := ihk (i + 1) (i' + 1) none none g0 g1 s s' n1 trivial hg hs
   exact ihr _ _ (some _) (some _) h h' _ _ n2 ⟨hst, he _ _ h1.1⟩ hh h1.2
  have htry : RR P ((fun r : En × RS => runF t rest (i + 1 + kids.size) (some (r.1, r.1)) h r.2) (runF t kids (i + 1) none h s)) ((fun r : En × RS => runF t (mapA g rest) (i' + 1 + (mapA g kids).size) (some (r.1, r.1)) h' r.2) (runF t (mapA g kids) (i' + 1) none h' s')) := by
   have h1 := ihk (i + 1) (i' + 1) none none h h' s s' n1 trivial hh hs
   exact ihr _ _ (some _) (some _) h h' _ _ n2 ⟨h1.1, h1.1⟩ hh h1.2
  rw [el]
  cases pd with
  | none =>
   cases pd' with
   | some q' => exact absurd hp id
   | none =>
    simp only [runF]
    split
    ·exact htry
    ·exact hline ‹_›
  | some q =>
   cases pd' with
   | none => exact absurd hp id
   | some q' =>
    obtain ⟨p1, p2⟩ := hp
    simp only [runF]
    by_cases hk : followsK k = true
    ·have hk' := hk
     simp only [followsK,inR,Bool.and_eq_true,decide_eq_true_eq] at hk'
     have k1 : ¬ k = 1 := by omega
     simp only [hk,if_true,k1,if_false]
     have pass : RR P (runF t rest (i + 1 + kids.size) (some q) h s) (runF t (mapA g rest) (i' + 1 + (mapA g kids).size) (some q') h' s') := ihr _ _ (some _) (some _) h h' _ _ n2 ⟨p1, p2⟩ hh hs
     split
     ·by_cases hc : q.1.ed = 2
      ·have v0 := p1.2.1 hc
       have ec : clsOf s' q'.1.val = clsOf s q.1.val := by rw [v0.2]; exact hs.cls v0.1
       rw [p1.1, ec]
       split
       ·exact go _ _ ⟨-1, 0⟩ ⟨-1, 0⟩ (fun e => e) (fun e => e) (.inl v0) (er_same (by show (-1 : Int) ≠ 2; decide)) (fun _ _ h => h)
       ·exact pass
      ·rw [p1.1, if_neg (fun q => hc q.1), if_neg (fun q => hc q.1)]
       exact pass
     ·split
      ·rw [p1.1]
       split
       ·exact go h h' q.1 q'.1 (fun e => e) (fun e => e) hh p1 (fun _ _ h => h)
       ·exact pass
      ·refine go _ _ q.1 q'.1 (fun e => if e.ed = 0 then q.2 else e) (fun e => if e.ed = 0 then q'.2 else e) ?_ p1 (fun x x' hx => ?_)
       ·rw [p2.1]
        split
        ·exact .inl (p2.2.1 ‹_›)
        ·exact hh
       ·show ER P (if _ then _ else _) (if _ then _ else _)
        rw [hx.1]
        split
        ·exact p2
        ·exact hx
    ·rw [if_neg hk, if_neg hk, p2.1]
     split
     ·split
      ·exact htry
      ·exact hline ‹_›
     ·exact ⟨p2, hs⟩
end
section
open Go Go.Sim
set_option maxRecDepth 100000

def EdOk (lp : Bool) (e : En) : Prop := (e.ed = 0 → e.val = 0) ∧ (e.ed = 0 ∨ e.ed = 1 ∨ e.ed = 2 ∨ (lp = true ∧ (e.ed = 3 ∨ e.ed = 4)))
theorem ed_next (lp : Bool) : EdOk lp .next := ⟨fun _ => rfl, .inl rfl⟩
theorem ed_of {lp : Bool} {e : En} (h : e.ed = 1 ∨ e.ed = 2) : EdOk lp e := ⟨fun q => by omega, by omega⟩
theorem EdOk.up {e : En} {lp : Bool} (h : EdOk false e) : EdOk lp e := ⟨h.1, by have := h.2; simp at this; omega⟩
theorem ed_loop {b : RS → En × RS} (hb : ∀ s, EdOk true (b s).1) {lp : Bool} : ∀ (n : Nat) (s : RS), EdOk lp (loopS b n s).1
 | 0, s => ed_next lp
 | n + 1, s => by
  simp only [loopS]
  split
  ·exact ed_of ‹_›
  ·split
   ·exact ed_next lp
   ·exact ed_loop hb n _
theorem ed_lineS {k a b h : Int} {s : RS} {lp : Bool} (hk : k = 5 ∨ k = 6 → lp = true) : EdOk lp (lineS k a b h s).1 := by
 unfold lineS
 split
 ·exact ed_next lp
 ·split
  ·exact ed_of (.inr rfl)
  ·split
   ·split
    ·exact ed_of (.inr rfl)
    ·exact ed_of (.inr rfl)
   ·split
    ·exact ed_of (.inl rfl)
    ·split
     ·exact ⟨fun _ => rfl, .inr (.inr (.inr ⟨hk (by omega), .inl rfl⟩))⟩
     ·split
      ·exact ⟨fun _ => rfl, .inr (.inr (.inr ⟨hk (by omega), .inr rfl⟩))⟩
      ·exact ed_next lp
theorem ed_run (t : List Class) : ∀ (f : Fo) (lp : Bool) (i : Nat) (pd : Option (En × En)) (h : Int) (s : RS), okF f lp pd.isSome = true → (∀ q, pd = some q → EdOk lp q.2) → EdOk lp (runF t f i pd h s).1 := by
 intro f
 induction f with
 | nil =>
  intro lp i pd h s _ hq
  cases pd with
  | none => exact ed_next lp
  | some q =>
   simp only [runF]
   split
   ·exact ed_next lp
   ·exact hq q rfl
 | node k a b kids rest ihk ihr =>
  intro lp i pd h s hok hq
  have none_case : ∀ (i : Nat) (s : RS), okF (.node k a b kids rest) lp false = true → EdOk lp (runF t (.node k a b kids rest) i none h s).1 := by
   intro i s hok
   rcases okF_node hok with ⟨_, q, _⟩ | ⟨hf, ⟨h7, _, o1, o2⟩ | ⟨h7, o1, o2, o3, o4⟩⟩
   ·cases q
   ·subst h7
    rw [runF_try]
    exact ihr lp _ (some _) h _ o2 (fun q hq => by cases hq; exact ihk lp _ none h s o1 (fun q hq => by cases hq))
   ·rw [runF_line h7]
    have hl : EdOk lp (lineR k a b i h (fun s => runF t kids (i + 1) none h s) s).1 := by
     unfold lineR
     by_cases k11 : k = 11
     ·rw [if_pos k11]
      have h1 := ihk lp (i + 1) none h (s.tell (100 + a)) (o2 k11) (fun q hq => by cases hq)
      show EdOk lp (if _ then _ else _)
      split
      ·exact ed_next lp
      ·exact h1
     ·rw [if_neg k11]
      by_cases k12 : k = 12
      ·rw [if_pos k12]
       exact ed_loop (fun s => ihk true (i + 1) none h s (o3 k12) (fun q hq => by cases hq)) _ _
      ·rw [if_neg k12]
       exact ed_lineS o4
    generalize lineR k a b i h (fun s => runF t kids (i + 1) none h s) s = r at hl ⊢
    show EdOk lp (if r.1.ed = 0 then _ else r).1
    split
    ·exact ihr lp _ none h _ o1 (fun q hq => by cases hq)
    ·exact hl
  cases pd with
  | none => exact none_case i s hok
  | some q =>
   have hq2 := hq q rfl
   rcases okF_node hok with ⟨hf, _, o1, o2⟩ | ⟨hf, _⟩
   ·simp only [runF,hf,if_true]
    have go : ∀ (g : Int) (st : En) (e : En → En), (∀ x, EdOk lp x → EdOk lp (e x)) → EdOk lp ((fun r : En × RS => runF t rest (i + 1 + kids.size) (some (st, e r.1)) h r.2) (runF t kids (i + 1) none g s)).1 := by
     intro g st e he
     exact ihr lp _ (some _) h _ o2 (fun q hq => by cases hq; exact he _ (ihk lp _ none g s o1 (fun q hq => by cases hq)))
    split
    ·split
     ·exact go q.1.val ⟨-1, 0⟩ (fun e => e) (fun _ h => h)
     ·exact ihr lp _ (some _) h _ o2 (fun q' hq' => by cases hq'; exact hq2)
    ·split
     ·split
      ·exact go h q.1 (fun e => e) (fun _ h => h)
      ·exact ihr lp _ (some _) h _ o2 (fun q' hq' => by cases hq'; exact hq2)
     ·refine go _ q.1 (fun e => if e.ed = 0 then q.2 else e) (fun x hx => ?_)
      show EdOk lp (if _ then _ else _)
      split
      ·exact hq2
      ·exact hx
   ·have hno : headNo (.node k a b kids rest) = true := by simp [headNo, hf]
    rw [show q = (q.1, q.2) from rfl, runF_no hno]
    split
    ·refine none_case i s ?_
     have : okF (.node k a b kids rest) lp true = okF (.node k a b kids rest) lp false := by simp only [okF,hf]; rfl
     rw [← this]; exact hok
    ·exact hq2
theorem ed_top {t : List Class} {p : List Line} (h : ValidP t p) : ((runP t p).1.ed = 0 → (runP t p).1.val = 0) ∧ ((runP t p).1.ed = 0 ∨ (runP t p).1.ed = 1 ∨ (runP t p).1.ed = 2) := by
 obtain ⟨h1, h2, h3, h4, h5, h6⟩ := validP_forest h
 have := ed_run t (forestP p) false 0 none (-1) rs0 h4 (fun q hq => by cases hq)
 obtain ⟨a1, a2⟩ := this
 refine ⟨a1, ?_⟩
 have e : (runF t (forestP p) 0 none (-1) rs0).1.ed = (runP t p).1.ed := rfl
 simp at a2; omega

def REq (r r' : En × RS) : Prop := r'.1 = r.1 ∧ r'.2.log = r.2.log ∧ r'.2.fs = r.2.fs
theorem REq.refl (r : En × RS) : REq r r := ⟨rfl, rfl, rfl⟩
theorem REq.symm {r r' : En × RS} (h : REq r r') : REq r' r := ⟨h.1.symm, h.2.1.symm, h.2.2.symm⟩
theorem REq.trans {r r' r'' : En × RS} (h : REq r r') (g : REq r' r'') : REq r r'' := ⟨g.1.trans h.1, g.2.1.trans h.2.1, g.2.2.trans h.2.2⟩
abbrev behind (L : List Int) (F : List Fault) (wk : Bool) : SimP := ⟨fun l l' => l' = L ++ l, F, wk⟩
theorem sim_behind (L : List Int) (F : List Fault) (wk : Bool) (t : List Class) (f : Fo) (i i' : Nat) (h h' : Int) (s s' : RS) (hn : wk = true → noAg f = true) (hh : HR (behind L F wk) h h') (hs : SR (behind L F wk) s s') : RR (behind L F wk) (runF t f i none h s) (runF t f i' none h' s') := by
 have := sim_run (P := behind L F wk) (g := fun a => a) (fun l l' a q => by show _ = _; rw [show l' = L ++ l from q, List.append_assoc]) (fun l l' a q => by show _ = _; rw [show l' = L ++ l from q, List.append_assoc]) t f i i' none none h h' s s' hn trivial hh hs
 rwa [mapA_id] at this
theorem sr_zero {s s' : RS} (h1 : s'.log = s.log) (h2 : s'.fs = s.fs) : SR (behind [] [] false) s s' :=
 have e : shf (behind [] [] false).F.length = fun x => x := funext shf_zero
 ⟨h1, s'.fs, rfl, (fun q => by cases q), (fun _ => by rw [h2, e, List.map_id'])⟩
theorem rr_zero {r r' : En × RS} (h : RR (behind [] [] false) r r') : REq r r' := by
 obtain ⟨⟨a1, a2, a3⟩, b1, X, b2, b3, b4⟩ := h
 have e : shf (behind [] [] false).F.length = fun x => x := funext shf_zero
 have b5 := b4 rfl
 rw [e, List.map_id'] at b5
 refine ⟨?_, b1, by rw [b2, b5]; rfl⟩
 have hv : r'.1.val = r.1.val := by
  by_cases c : r.1.ed = 2
  ·have := (a2 c).2; simpa using this
  ·exact a3 c
 cases h1 : r.1; cases h2 : r'.1
 rw [h1, h2] at a1 hv
 simp only at a1 hv
 rw [a1, hv]
theorem run_eq (t : List Class) (f : Fo) (i i' : Nat) (h : Int) (s s' : RS) (h1 : s'.log = s.log) (h2 : s'.fs = s.fs) : REq (runF t f i none h s) (runF t f i' none h s') :=
 rr_zero (sim_behind [] [] false t f i i' h h s s' (fun q => by cases q) (by
  unfold HR
  show (0 ≤ h ∧ h = h + ((0 : Nat) : Int)) ∨ (h < 0 ∧ (false = true ∨ h < 0))
  omega) (sr_zero h1 h2))
def innF (f : Fo) : Fo := if f.isNil = true then .node 0 0 0 .nil .nil else f
def deepL (l : Line) : Line := { l with depth := l.depth + 1 }
def innP (p : List Line) : List Line := if p = [] then [⟨1, 0, 0, 0⟩] else p.map deepL
theorem flat_deepL : ∀ (f : Fo) (d : Int), f.flat (d + 1) = (f.flat d).map deepL
 | .nil, d => rfl
 | .node k a b kids rest, d => by simp only [Fo.flat,flat_deepL kids,flat_deepL rest,List.map_cons,List.map_append]; rfl
theorem isNil_flat (f : Fo) (d : Int) : f.isNil = true ↔ f.flat d = [] := by
 cases f <;> simp [Fo.isNil, Fo.flat]
theorem innF_flat (f : Fo) : (innF f).flat 1 = innP (f.flat 0) := by
 unfold innF innP
 by_cases c : f.isNil = true
 ·rw [if_pos c, if_pos ((isNil_flat f 0).1 c)]; rfl
 ·rw [if_neg c, if_neg (fun q => c ((isNil_flat f 0).2 q))]
  exact flat_deepL f 0
theorem run_inn (t : List Class) (f : Fo) (i : Nat) (h : Int) (s : RS) : runF t (innF f) i none h s = runF t f i none h s := by
 unfold innF
 by_cases c : f.isNil = true
 ·rw [if_pos c]
  cases f with
  | nil => simp [runF, lineR, lineS, RS.jump, jumpsK, inR, En.next]
  | node => simp [Fo.isNil] at c
 ·rw [if_neg c]
end
section
open Go Go.Sim
set_option maxRecDepth 100000
theorem dchG_pos {h : List Fault} : ∀ (m : Nat) (f a : Int), a ∈ dchG h m f → 0 ≤ a
 | 0, f, a, q => by cases q
 | m + 1, f, a, q => by
  simp only [dchG] at q
  split at q
  ·rcases List.mem_cons.1 q with e | e
   ·omega
   ·exact dchG_pos m _ a e
  ·cases q
theorem dchG_lt {h : List Fault} (ho : heapOk h) {m : Nat} {f a : Int} (hf : f < h.length) (q : a ∈ dchG h m f) : a < h.length := by
 have := (dchG_dec ho m f hf).2 a q
 omega
def isoR (fs : List Fault) (v : Int) : Int × List Fault := (idxF (fun x => decide (v = x)) (sortI (bfsF fs v)), isoL fs (sortI (bfsF fs v)))
theorem sort_dch {h : List Fault} (ho : heapOk h) {f : Int} (h0 : 0 ≤ f) (h1 : f < h.length) : sortI (bfsF h f) = (dchF h f).reverse := by
 rw [bfsF_dch ho h0 h1]
 exact sortI_dec (dchG_dec ho (f + 1).toNat f h1).1
section
variable {F h : List Fault}
theorem dch_pre {X : List Fault} (ho : heapOk F) : ∀ (m : Nat) (v : Int), v < F.length → dchG (F ++ X) m v = dchG F m v
 | 0, v, _ => rfl
 | m + 1, v, hv => by
  simp only [dchG]
  split
  ·rename_i h0
   obtain ⟨o1, o2, o3⟩ := ho v.toNat (by omega)
   have e : ctxOf (F ++ X) v = ctxOf F v := by
    unfold ctxOf
    simp only [List.getD_eq_getElem?_getD]
    rw [List.getElem?_append_left (by omega)]
   have e3 : ctxOf F v < F.length := by
    have : ctxOf F v < v.toNat := o3
    omega
   rw [e, dch_pre ho m _ e3]
  ·rfl
theorem iso_pre {X : List Fault} (ho : heapOk F) (ho' : heapOk (F ++ X)) {v : Int} (h0 : 0 ≤ v) (h1 : v < F.length) : isoR (F ++ X) v = isoR F v := by
 have hl : (F ++ X).length = F.length + X.length := by simp
 unfold isoR
 rw [sort_dch ho h0 h1, sort_dch ho' h0 (by omega)]
 have e1 : dchF (F ++ X) v = dchF F v := dch_pre ho _ v h1
 rw [e1]
 have hm : ∀ a ∈ (dchF F v).reverse, 0 ≤ a ∧ a < F.length := fun a ha => by
  rw [List.mem_reverse] at ha
  exact ⟨dchG_pos _ _ a ha, dchG_lt ho h1 ha⟩
 generalize (dchF F v).reverse = S at hm ⊢
 rw [Prod.mk.injEq]
 refine ⟨rfl, ?_⟩
 unfold isoL
 refine List.map_congr_left fun a ha => ?_
 obtain ⟨a0, a1⟩ := hm a ha
 have e : (F ++ X).getD a.toNat default = F.getD a.toNat default := by
  simp only [List.getD_eq_getElem?_getD]
  rw [List.getElem?_append_left (by omega)]
 unfold isoAt
 rw [e]
end
theorem runP_def (t : List Class) (p : List Line) : runP t p = runF t (forestP p) 0 none (-1) rs0 := rfl
theorem res_two {r : En × RS} (h : r.1.ed = 2) : resOf r = ⟨r.2.log, 2, (isoR r.2.fs r.1.val).1, (isoR r.2.fs r.1.val).2⟩ := by unfold resOf isoR; rw [if_pos h]
theorem res_else {r : En × RS} (h : r.1.ed ≠ 2) : resOf r = ⟨r.2.log, r.1.ed, r.1.val, []⟩ := by unfold resOf; rw [if_neg h]
theorem res_log (r : En × RS) : (resOf r).log = r.2.log := by unfold resOf; split <;> rfl
theorem res_ed (r : En × RS) : (resOf r).ed = r.1.ed := by
 unfold resOf
 split
 ·rename_i h; rw [h]
 ·rfl
end
section
open Go Go.Sim
set_option maxRecDepth 100000

def enC (c : Clo) : En := if 0 ≤ c.cur then ⟨2, c.cur⟩ else .next
structure RelC (c : Clo) (r : En × RS) : Prop where
 en : r.1 = enC c
 log : r.2.log = c.log
 fs : r.2.fs = c.fs
end
section
open Go Go.Sim
set_option maxRecDepth 100000

def dep (fs : List Fault) (v : Int) : Nat := (dchF fs v).length
theorem dep_neg {fs : List Fault} {v : Int} (h : v < 0) : dep fs v = 0 := by unfold dep; rw [dchF_neg h]; rfl
theorem dep_pre {F X : List Fault} (ho : heapOk F) {v : Int} (h : v < F.length) : dep (F ++ X) v = dep F v := by
 unfold dep dchF
 rw [dch_pre ho _ v h]
theorem dep_new {fs : List Fault} (ho : heapOk fs) {c d g : Int} (hg : g < fs.length) : dep (raiseF fs c d g) fs.length = dep fs g + 1 := by
 have ho' := raiseF_ok (cls := c) (code := d) ho hg
 have hl : (raiseF fs c d g).length = fs.length + 1 := raiseF_len
 have e : ctxOf (raiseF fs c d g) fs.length = if 0 ≤ g then g else -1 := by
  unfold ctxOf raiseF
  simp [List.getD_eq_getElem?_getD]
 unfold dep
 rw [dchF_step ho' (by omega) (by omega), e, List.length_cons]
 by_cases q : 0 ≤ g
 ·rw [if_pos q]
  have := dep_pre (X := [⟨c, d, -1, if 0 ≤ g then g else -1, false⟩]) ho hg
  unfold dep at this
  show (dchF (fs ++ _) g).length + 1 = _
  rw [this]
 ·rw [if_neg q, dchF_neg (by omega), dchF_neg (by omega)]
def DepOk (fs : List Fault) (N : Nat) (e : En) : Prop := e.ed = 2 → dep fs e.val ≤ N
theorem DepOk.up {fs : List Fault} {N M : Nat} {e : En} (h : DepOk fs N e) (hm : N ≤ M) : DepOk fs M e := fun q => Nat.le_trans (h q) hm
theorem Goes.dep {t : List Class} {n : Nat} {s : RS} {e : En} {s' : RS} (h : Goes t n s e s') (ho : heapOk s.fs) {v : Int} (hv : v < s.fs.length) : dep s'.fs v = dep s.fs v := by
 obtain ⟨l, e1, _⟩ := h.fs
 rw [e1]; exact dep_pre ho hv
theorem dep_lineS {s : RS} (ho : heapOk s.fs) {k a b h : Int} {N : Nat} (hh : h < s.fs.length) (hN : dep s.fs h ≤ N) : DepOk (lineS k a b h s).2.fs (N + 1) (lineS k a b h s).1 := by
 unfold lineS
 split
 ·exact fun q => by cases q
 ·split
  ·intro _
   show dep (raiseF s.fs a b h) s.fs.length ≤ N + 1
   rw [dep_new ho hh]; omega
  ·split
   ·split
    ·intro _
     show dep (raiseF s.fs 0 0 (-1)) s.fs.length ≤ N + 1
     rw [dep_new ho (by omega), dep_neg (by omega)]; omega
    ·intro _
     show dep s.fs h ≤ N + 1
     omega
   ·split
    ·exact fun q => by cases q
    ·split
     ·exact fun q => by cases q
     ·split
      ·exact fun q => by cases q
      ·exact fun q => by cases q
theorem dep_run {t : List Class} (ht : validT t = true) : ∀ (f : Fo) (i : Nat) (pd : Option (En × En)) (d h : Int) (s : RS) (N : Nat), numsF t f d = true → FsOk t s.fs → h < s.fs.length → PdOk s pd → dep s.fs h ≤ N → (∀ q, pd = some q → DepOk s.fs N q.1 ∧ DepOk s.fs N q.2) → DepOk (runF t f i pd h s).2.fs (N + f.size) (runF t f i pd h s).1 := by
 intro f
 induction f with
 | nil =>
  intro i pd d h s N _ hs _ _ _ hq
  cases pd with
  | none => exact fun q => by cases q
  | some q =>
   simp only [runF]
   split
   ·exact fun q => by cases q
   ·exact ((hq q rfl).2).up (by omega)
 | node k a b kids rest ihk ihr =>
  intro i pd d h s N hn hs hh hp hN hq
  obtain ⟨n1, n2, n3, n4, n5⟩ := numsF_node hn
  have esz : (Fo.node k a b kids rest).size = 1 + kids.size + rest.size := rfl
  have hline : k ≠ 7 → DepOk ((fun r : En × RS => if r.1.ed = 0 then runF t rest (i + 1 + kids.size) none h r.2 else r) (lineR k a b i h (fun s => runF t kids (i + 1) none h s) s)).2.fs (N + (Fo.node k a b kids rest).size) ((fun r : En × RS => if r.1.ed = 0 then runF t rest (i + 1 + kids.size) none h r.2 else r) (lineR k a b i h (fun s => runF t kids (i + 1) none h s) s)).1 := by
   intro _
   have hg := goes_lineR (i := i) (body := fun s => runF t kids (i + 1) none h s) (n := cost kids) ht hs n1 hh (fun s' hs' hl => goes_run ht kids (i + 1) none (d + 1) h s' n4 hs' (by omega) trivial)
   have h1 : DepOk (lineR k a b i h (fun s => runF t kids (i + 1) none h s) s).2.fs (N + 1 + kids.size) (lineR k a b i h (fun s => runF t kids (i + 1) none h s) s).1 := by
    unfold lineR
    by_cases k11 : k = 11
    ·rw [if_pos k11]
     have h2 := ihk (i + 1) none (d + 1) h (s.tell (100 + a)) N n4 hs hh trivial hN (fun q hq => by cases hq)
     unfold withS
     intro q
     by_cases c : (runF t kids (i + 1) none h (s.tell (100 + a))).1.ed = 2 ∧ b = 1
     ·simp only [c,and_self,if_true] at q; cases q
     ·simp only [c,if_false] at q ⊢
      have := h2 q
      show dep (runF t kids (i + 1) none h (s.tell (100 + a))).2.fs _ ≤ _
      omega
    ·rw [if_neg k11]
     by_cases k12 : k = 12
     ·rw [if_pos k12]
      have key : ∀ (m : Nat) (s' : RS), FsOk t s'.fs → h < s'.fs.length → dep s'.fs h ≤ N → DepOk (loopS (fun s => runF t kids (i + 1) none h s) m s').2.fs (N + 1 + kids.size) (loopS (fun s => runF t kids (i + 1) none h s) m s').1 := by
       intro m
       induction m with
       | zero => intro s' _ _ _; exact fun q => by cases q
       | succ m ih =>
        intro s' hs' hh' hN'
        have g1 := goes_run ht kids (i + 1) none (d + 1) h s' n4 hs' hh' trivial
        have h2 := ihk (i + 1) none (d + 1) h s' N n4 hs' hh' trivial hN' (fun q hq => by cases hq)
        have gl := g1.len
        simp only [loopS]
        split
        ·exact h2.up (by omega)
        ·split
         ·exact fun q => by cases q
         ·exact ih _ g1.ok (by omega) (by rw [g1.dep hs'.ho hh']; exact hN')
      exact key _ s hs hh hN
     ·rw [if_neg k12]
      have e : (s.jump k i).fs = s.fs := by unfold RS.jump; split <;> rfl
      exact (dep_lineS (by rw [e]; exact hs.ho) (by rw [e]; exact hh) (by rw [e]; exact hN)).up (by omega)
   generalize lineR k a b i h (fun s => runF t kids (i + 1) none h s) s = r at h1 hg ⊢
   have gl := hg.len
   show DepOk (if r.1.ed = 0 then _ else r).2.fs _ (if r.1.ed = 0 then _ else r).1
   split
   ·exact (ihr _ none d h r.2 N n5 hg.ok (by omega) trivial (by rw [hg.dep hs.ho hh]; exact hN) (fun q hq => by cases hq)).up (by omega)
   ·exact h1.up (by omega)
  have htry : DepOk ((fun r : En × RS => runF t rest (i + 1 + kids.size) (some (r.1, r.1)) h r.2) (runF t kids (i + 1) none h s)).2.fs (N + (Fo.node k a b kids rest).size) ((fun r : En × RS => runF t rest (i + 1 + kids.size) (some (r.1, r.1)) h r.2) (runF t kids (i + 1) none h s)).1 := by
   have hg := goes_run ht kids (i + 1) none (d + 1) h s n4 hs hh trivial
   have h1 := ihk (i + 1) none (d + 1) h s N n4 hs hh trivial hN (fun q hq => by cases hq)
   generalize runF t kids (i + 1) none h s = r at h1 hg ⊢
   have gl := hg.len
   exact (ihr _ (some (r.1, r.1)) d h r.2 (N + kids.size) n5 hg.ok (by omega) ⟨hg.val, hg.val⟩ (by rw [hg.dep hs.ho hh]; omega) (fun q hq => by cases hq; exact ⟨h1, h1⟩)).up (by omega)
  cases pd with
  | none =>
   simp only [runF]
   split
   ·exact htry
   ·exact hline ‹_›
  | some q =>
   obtain ⟨q1, q2⟩ := hq q rfl
   simp only [runF]
   by_cases hk : followsK k = true
   ·simp only [hk,if_true]
    have pass : DepOk (runF t rest (i + 1 + kids.size) (some q) h s).2.fs (N + (Fo.node k a b kids rest).size) (runF t rest (i + 1 + kids.size) (some q) h s).1 :=
     (ihr _ (some q) d h s N n5 hs hh hp hN (fun q' hq' => by cases hq'; exact ⟨q1, q2⟩)).up (by omega)
    have go : ∀ (g : Int) (st : En) (e : En → En), g < s.fs.length → dep s.fs g ≤ N → (st.ed = 2 → 0 ≤ st.val ∧ st.val < s.fs.length) → DepOk s.fs N st → (∀ x : En, e x = x ∨ e x = q.2) →
      DepOk ((fun r : En × RS => runF t rest (i + 1 + kids.size) (some (st, e r.1)) h r.2) (runF t kids (i + 1) none g s)).2.fs (N + (Fo.node k a b kids rest).size) ((fun r : En × RS => runF t rest (i + 1 + kids.size) (some (st, e r.1)) h r.2) (runF t kids (i + 1) none g s)).1 := by
     intro g st e hg0 hgd hst hsd he
     have hg := goes_run ht kids (i + 1) none (d + 1) g s n4 hs hg0 trivial
     have h1 := ihk (i + 1) none (d + 1) g s N n4 hs hg0 trivial hgd (fun q hq => by cases hq)
     generalize runF t kids (i + 1) none g s = r at h1 hg ⊢
     have gl := hg.len
     have hst2 : DepOk r.2.fs (N + kids.size) st := fun z => by
      have := hst z
      rw [hg.dep hs.ho this.2]; have := hsd z; omega
     have he2 : DepOk r.2.fs (N + kids.size) (e r.1) ∧ ((e r.1).ed = 2 → 0 ≤ (e r.1).val ∧ (e r.1).val < r.2.fs.length) := by
      rcases he r.1 with z | z
      ·rw [z]; exact ⟨h1, hg.val⟩
      ·rw [z]
       refine ⟨fun y => ?_, fun y => ?_⟩
       ·rw [hg.dep hs.ho (hp.2 y).2]; have := q2 y; omega
       ·have := hp.2 y; omega
     exact (ihr _ (some (st, e r.1)) d h r.2 (N + kids.size) n5 hg.ok (by omega) ⟨fun z => by have := hst z; show 0 ≤ st.val ∧ st.val < (r.2.fs.length : Int); omega, he2.2⟩ (by rw [hg.dep hs.ho hh]; omega) (fun q hq => by cases hq; exact ⟨hst2, he2.1⟩)).up (by omega)
    split
    ·split
     ·rename_i hc
      exact go q.1.val ⟨-1, 0⟩ (fun r => r) (hp.1 hc.1).2 (q1 hc.1) (fun z => by cases z) (fun z => by cases z) (fun x => .inl rfl)
     ·exact pass
    ·split
     ·split
      ·exact go h q.1 (fun r => r) hh hN hp.1 q1 (fun x => .inl rfl)
      ·exact pass
     ·refine go _ q.1 (fun r => if r.ed = 0 then q.2 else r) ?_ ?_ hp.1 q1 (fun x => ?_)
      ·split
       ·exact (hp.2 ‹_›).2
       ·exact hh
      ·split
       ·exact q2 ‹_›
       ·exact hN
      ·show (if _ then _ else _) = x ∨ (if _ then _ else _) = q.2
       split
       ·exact .inr rfl
       ·exact .inl rfl
   ·rw [if_neg hk]
    split
    ·split
     ·exact htry
     ·exact hline ‹_›
    ·exact q2.up (by omega)
theorem dep_top {t : List Class} {p : List Line} (h : ValidP t p) (h2 : (runP t p).1.ed = 2) : dep (runP t p).2.fs (runP t p).1.val ≤ 24 := by
 obtain ⟨h1, _, h3, h4, h5, h6⟩ := validP_forest h
 have := dep_run h1 (forestP p) 0 none 0 (-1) rs0 0 h3 (fsOk_nil t) (by show (-1 : Int) < 0; omega) trivial (by rw [dep_neg (by omega)]; omega) (fun q hq => by cases hq) h2
 rw [Nat.zero_add] at this
 exact Nat.le_trans this h6
end
section
set_option maxRecDepth 100000
attribute [local go_sem ↓] aw_skip aw_ret aw_exit aw_region aw_draw aw_seq aw_block aw_loop aw_cond frz_nil frz_cons sq_normal sq_ret sq_exit exB_normal exB_ret exB_same exB_other retQ_ret retQ_normal ret0_ret ret0_normal ao_nil go1 g_move g_assign g_pick g_build g_load g_binOp g_unOp g_convert g_fieldAddr g_field g_indexAddr g_index g_extract g_lookup g_slice g_nilCheck g_len g_makeFunc h_call h_append h_alloc h_box h_buildSlice h_makeSlice h_store gV i_box i_buildSlice i_move i_assign i_build i_load i_binOp i_unOp i_convert i_fieldAddr i_field i_indexAddr i_index i_extract i_lookup i_makeMap i_mapUpdate i_slice i_nilCheck i_makeFunc i_len i_max i_min i_alloc i_makeSlice i_store i_append i_call i_pick boxI boxA buildSliceI buildSliceA makeSliceA makeMapA allocA storeA p_move p_assign p_pick p_build p_load p_binOp p_unOp p_convert p_fieldAddr p_field p_indexAddr p_index p_extract p_lookup p_makeMap p_mapUpdate p_slice p_nilCheck p_makeFunc p_len p_max p_min p_alloc p_box p_buildSlice p_makeSlice p_store p_append p_call x_nil x_go1 x_g0 x_g1 x_g2 x_g3 x_s0 x_s1 x_s2 x_s3 u_move u_assign u_pick u_build u_load u_binOp u_unOp u_convert u_fieldAddr u_field u_indexAddr u_index u_extract u_lookup u_slice u_nilCheck u_makeFunc u_len u_buildSlice x_s4 x_g4 rq_normal rq_ret rq_exit aw_range
attribute [local go_sem] frzV_sl frzK_some set_none set_other AHeap.set_self set_del set_set cnd_t cnd_f cnd_b retA_one retA_two retA_three retA_four retA_nil gIf_b mrgV_b mrgV_wh mrgV_U gIf_U gIf_wh mrgB_f mrgB_some mrgB_if wh_true wh_false keepA_some keepA_if gD_zero gD_succ gT_some bxA_t bxA_f callA_fn ev_tmp ev_const ev_global ev_func oc_bool oc_int oc_string oc_nil oc_nilptr oc_nilfunc cl_bool cl_int cl_string cl_nil updO_some updO_none upd_same upd_other init_at pickA_b pickA_wh selA_t selA_f selA_and selA_or selA_orn selA_orm selA_bb selA_ii beqt b_add b_sub b_mul b_and b_or b_xor b_eql b_neq b_lss b_leq b_gtr b_geq b_quo b_rem b_shr b_seql b_sneq b_sadd b_beql b_bneq b_aeql b_aneq u_not u_neg isConstOp eqA eqCellV List.getD_cons_zero List.getD_cons_succ List.map_cons List.map_nil List.nil_append List.cons_append List.append_nil if_true if_false Option.map_some Option.map_none ne_eq not_false_eq_true oneA ldv ld1v ld1s wr1s ldRow stRow row_lit row_agg row_vsl row_sl row_ptr row_fn one_I one_B one_S one_vsl one_sl one_ptr one_fn extractA okA rI rS rU rClass rFault rExit rStart rLine Int.toNat_natCast List.length_cons List.length_nil List.length_map List.all_cons List.all_nil Bool.and_true Nat.zero_add List.getElem?_cons_zero List.getElem?_cons_succ List.take_succ_cons List.take_zero List.drop_succ_cons List.drop_zero and_self true_and and_true implies_true decide_eq_true_eq decide_eq_false_iff_not Bool.or_eq_true Bool.or_eq_false_iff Bool.and_eq_true Bool.not_eq_true' Bool.not_eq_false' beq_false decide_true decide_false Int.ofNat_lt Int.ofNat_le Int.natCast_nonneg Bool.or_true Bool.or_false Bool.true_or Bool.false_or beq_self_eq_true List.drop_one Bool.not_true Bool.not_false Bool.not_not Bool.false_eq_true Bool.true_eq_false false_implies true_implies Bool.true_and Bool.false_and Bool.and_false not_true_eq_false Int.natCast_eq_zero Int.natCast_pos Int.natCast_zero false_and and_false or_false false_or or_true true_or Bool.or_self none_le_iff List.replicate_zero Int.toNat_zero List.replicate_succ buildRows List.set_cons_zero List.set_cons_succ List.set_nil List.mapM_nil maxLen_eq Nat.zero_le Nat.mul_one Nat.one_mul bldA fillA spliceA List.take_nil List.drop_nil List.getElem?_nil ld1o wr1o bldSliceA le_same cv_i cvI_t quietT_fn qvd_some ld_o ldO_1 ldO_l wr_o wrO_1 set_2 set_3 set_4 putL_nil putL_cons List.zip_cons_cons List.zip_nil_left List.zip_nil_right List.toList_toArray frzV_set ti1 ti2 tk2 ti3 te3 ts3 tk3 tz3 ti4 tb4 ti5 tk5 tz5 ti9 te9 ts9 tk9 tz9 ti20 ti22 te22 tz22 ti23 te23 ti25 tp25 tf25_0 ti26 te26 ti29 te29 ti30 te30 ti32 tp32 tf32_0 ti34 tp34 tf34_0 tf34_1 tf34_2 tf34_3 ti41 tq41 tp41 tf41_0 tf41_1 tf41_2 tf41_3 ti44 tq44 tp44 tf44_0 tf44_1 tf44_2 ti45 te45 ti47 tq47 tp47 tf47_0 tf47_1 tf47_2 ti82 ti84 ti88 tq88 tp88 tf88_0 tf88_1 ti103 tq103 tp103 tf103_0 tf103_1 tf103_2 tf103_3 tf103_4 ti106 ti109 ti124 ti127 tp127 tf127_0 tf127_1 ti129 tp129 tf129_0 tf129_1 tf129_2 tf129_3 tf129_4 ti136 ti138 tp138 tf138_0 tf138_1 tf138_2 tf138_3 ti140 tq140 tp140 tf140_0 tf140_1 ti144 tq144 tp144 tf144_0 tf144_1 ti149 te149 ti151 te151 ti164 ti165 ti167 ti177 te177 ti186 ti202 ti205 tk205 tz205 ti209 tk209 ti217 tk217 tz217 ti219 tk219 tz219 ti220 tk220 ti224 ti226 fp13_0 fv13_0 fp13_1 fv13_1 fp24_0 fv24_0 fp25_0 fv25_0 fp31_0 fv31_0 fp32_0 fv32_0 fp33_0 fv33_0 fp33_1 fv33_1 fp33_2 fv33_2 fp33_3 fv33_3 fp34_0 fv34_0 fp34_1 fv34_1 fp34_2 fv34_2 fp34_3 fv34_3 fp40_0 fv40_0 fp40_1 fv40_1 fp40_2 fv40_2 fp40_3 fv40_3 fp41_0 fv41_0 fp41_1 fv41_1 fp41_2 fv41_2 fp41_3 fv41_3 fp43_0 fv43_0 fp43_1 fv43_1 fp43_2 fv43_2 fp44_0 fv44_0 fp44_1 fv44_1 fp44_2 fv44_2 fp46_0 fv46_0 fp46_1 fv46_1 fp46_2 fv46_2 fp47_0 fv47_0 fp47_1 fv47_1 fp47_2 fv47_2 fp57_0 fv57_0 fp58_0 fv58_0 fp72_0 fv72_0 fp72_1 fv72_1 fp72_2 fv72_2 fp87_0 fv87_0 fp87_1 fv87_1 fp88_0 fv88_0 fp88_1 fv88_1 fp102_0 fv102_0 fp102_1 fv102_1 fp102_2 fv102_2 fp102_3 fv102_3 fp102_4 fv102_4 fp103_0 fv103_0 fp103_1 fv103_1 fp103_2 fv103_2 fp103_3 fv103_3 fp103_4 fv103_4 fp113_0 fv113_0 fp113_1 fv113_1 fp113_2 fv113_2 fp113_3 fv113_3 fp120_0 fv120_0 fp120_1 fv120_1 fp120_2 fv120_2 fp126_0 fv126_0 fp126_1 fv126_1 fp127_0 fv127_0 fp127_1 fv127_1 fp128_0 fv128_0 fp128_1 fv128_1 fp128_2 fv128_2 fp128_3 fv128_3 fp128_4 fv128_4 fp129_0 fv129_0 fp129_1 fv129_1 fp129_2 fv129_2 fp129_3 fv129_3 fp129_4 fv129_4 fp137_0 fv137_0 fp137_1 fv137_1 fp137_2 fv137_2 fp137_3 fv137_3 fp138_0 fv138_0 fp138_1 fv138_1 fp138_2 fv138_2 fp138_3 fv138_3 fp139_0 fv139_0 fp139_1 fv139_1 fp140_0 fv140_0 fp140_1 fv140_1 fp143_0 fv143_0 fp143_1 fv143_1 fp144_0 fv144_0 fp144_1 fv144_1 fp158_0 fv158_0 fp158_1 fv158_1 fp158_2 fv158_2 fp159_0 fv159_0 fp159_1 fv159_1 fp159_2 fv159_2 fp169_0 fv169_0 fp169_1 fv169_1 lv22 ll22 is22 ix22 sh22 so22 sb22 sm22 sp22 lv23 ll23 is23 ix23 sh23 so23 sb23 sm23 sp23 lv26 ll26 is26 ix26 sh26 so26 sb26 sm26 sp26 lv29 ll29 is29 ix29 sh29 so29 sb29 sm29 sp29 lv30 ll30 is30 ix30 sh30 so30 sb30 sm30 sp30 lv45 ll45 is45 ix45 sh45 so45 sb45 sm45 sp45 lv56 ll56 is56 sp56 lv59 ll59 is59 sp59 lv71 ll71 is71 sp71 lv149 ll149 is149 sp149 lv151 ll151 is151 sp151 lv177 ll177 is177 ix177 sh177 so177 sb177 sm177 sp177 xs9 ls9 sx9 sy9 sz9
section
open Go Go.Sim
set_option maxRecDepth 100000

theorem c_heapHas (h : List Fault) (cl : Bool) (a : Int) (H : AHeap) : ACalls Tryz.prog 114 [aHeap h cl, I a] H fun r H' => r = B (inR a 0 (h.length - 1)) ∧ H' = H := by
 refine acalls_len1 (by kernel_rfl) (List.mem_cons_self ..) fun hl => ?_
 rw [List.length_map] at hl
 refine acalls_of0 Tryz.func114 rfl (by kernel_rfl) rfl rfl (awp_sound (fz := fun _ => []) (im := fun s => s == 2) mixed _ _ _ _ (by kernel_rfl) ?_)
 simp +contextual -dsimp -implicitDefEqProofs (maxSteps:=5000000) only [go_sem,reduceIte,reduceCtorEq,Nat.reduceEqDiff,Nat.reduceBEq,Nat.reduceAdd,Nat.reduceLeDiff,Nat.reduceMul,Nat.reduceLT,Int.reduceEq,Int.reduceLT,Int.reduceLE]
 rw [w64 (by omega) (by omega)]
 exact (c_within _ _ _ _).det (by simp +contextual -dsimp -implicitDefEqProofs (maxSteps:=5000000) only [go_sem,reduceIte,reduceCtorEq,Nat.reduceEqDiff,Nat.reduceBEq,Nat.reduceAdd,Nat.reduceLeDiff,Nat.reduceMul,Nat.reduceLT,Int.reduceEq,Int.reduceLT,Int.reduceLE])
def linkF (n : Nat) (f to : Int) : Bool := decide (to = -1) || (inR to 0 (n - 1) && !decide (to = f))
theorem c_link (h : List Fault) (cl : Bool) (f a : Int) (H : AHeap) : ACalls Tryz.prog 156 [I f, I a, .vptr [[.vsl (h.map rFault) cl]] 0 0] H fun r H' => r = B (linkF h.length f a) ∧ H' = H := by
 refine acalls_of0 Tryz.func156 rfl (by kernel_rfl) rfl rfl (awp_sound (fz := fun _ => []) (im := fun _ => false) mixed _ _ _ _ (by kernel_rfl) ?_)
 by_cases h1 : a = -1
 ·simp +contextual -dsimp -implicitDefEqProofs (maxSteps:=5000000) only [go_sem,reduceIte,reduceCtorEq,Nat.reduceEqDiff,Nat.reduceBEq,Nat.reduceAdd,Nat.reduceLeDiff,Nat.reduceMul,Nat.reduceLT,Int.reduceEq,Int.reduceLT,Int.reduceLE,h1,linkF]
 ·simp +contextual -dsimp -implicitDefEqProofs (maxSteps:=5000000) only [go_sem,reduceIte,reduceCtorEq,Nat.reduceEqDiff,Nat.reduceBEq,Nat.reduceAdd,Nat.reduceLeDiff,Nat.reduceMul,Nat.reduceLT,Int.reduceEq,Int.reduceLT,Int.reduceLE,h1]
  refine (c_heapHas h cl a H).det ?_
  cases hI : inR a 0 (h.length - 1)
  ·simp +contextual -dsimp -implicitDefEqProofs (maxSteps:=5000000) only [go_sem,reduceIte,reduceCtorEq,Nat.reduceEqDiff,Nat.reduceBEq,Nat.reduceAdd,Nat.reduceLeDiff,Nat.reduceMul,Nat.reduceLT,Int.reduceEq,Int.reduceLT,Int.reduceLE,h1,linkF,hI]
  ·simp +contextual -dsimp -implicitDefEqProofs (maxSteps:=5000000) only [go_sem,reduceIte,reduceCtorEq,Nat.reduceEqDiff,Nat.reduceBEq,Nat.reduceAdd,Nat.reduceLeDiff,Nat.reduceMul,Nat.reduceLT,Int.reduceEq,Int.reduceLT,Int.reduceLE,h1,linkF,hI]
theorem c_faultsIn1 (h : List Fault) (cl : Bool) (a : Int) (H : AHeap) : ACalls Tryz.prog 113 [I a, .vptr [[.vsl (h.map rFault) cl]] 0 0] H fun r H' => r = B (!inR a 0 (h.length - 1)) ∧ H' = H := by
 refine acalls_of0 Tryz.func113 rfl (by kernel_rfl) rfl rfl (awp_sound (fz := fun _ => []) (im := fun _ => false) mixed _ _ _ _ (by kernel_rfl) ?_)
 simp +contextual -dsimp -implicitDefEqProofs (maxSteps:=5000000) only [go_sem,reduceIte,reduceCtorEq,Nat.reduceEqDiff,Nat.reduceBEq,Nat.reduceAdd,Nat.reduceLeDiff,Nat.reduceMul,Nat.reduceLT,Int.reduceEq,Int.reduceLT,Int.reduceLE]
 refine (c_heapHas h cl a H).det ?_
 simp +contextual -dsimp -implicitDefEqProofs (maxSteps:=5000000) only [go_sem,reduceIte,reduceCtorEq,Nat.reduceEqDiff,Nat.reduceBEq,Nat.reduceAdd,Nat.reduceLeDiff,Nat.reduceMul,Nat.reduceLT,Int.reduceEq,Int.reduceLT,Int.reduceLE]
theorem c_IndexFuncInt (l : List Int) (cl : Bool) (g : FuncId) (caps : List AV) (p : Int → Bool) (H : AHeap)
  (hp : ∀ c, ACalls Tryz.prog g (I c :: caps) H fun r H' => r = B (p c) ∧ H' = H) :
  ACalls Tryz.prog 158 [.vsl (l.map rI) cl, .fn g [] caps] H fun r H' => r = I (idxF p l) ∧ H' = H := by
 refine acalls_len (by kernel_rfl) (List.mem_cons_self ..) fun hl => ?_
 rw [List.length_map] at hl
 refine acalls_of0 Tryz.func158 rfl (by kernel_rfl) rfl rfl (awp_sound (fz := fun _ => []) (im := fun _ => false) mixed _ _ _ _ (by kernel_rfl) ?_)
 simp +contextual -dsimp -implicitDefEqProofs (maxSteps:=5000000) only [go_sem,reduceIte,reduceCtorEq,Nat.reduceEqDiff,Nat.reduceBEq,Nat.reduceAdd,Nat.reduceLeDiff,Nat.reduceMul,Nat.reduceLT,Int.reduceEq,Int.reduceLT,Int.reduceLE]
 refine aloop mixed (fz := fun _ => []) (im := fun _ => false) (by kernel_rfl) (fun m tm H' => ∃ k : Nat, m = l.length - k ∧ k ≤ l.length ∧ H' = H ∧ tm 0 = .vsl (l.map rI) cl ∧ tm 1 = .fn g [] caps ∧ tm 7 = I l.length ∧ tm 8 = I k ∧ (l.take k).any p = false) l.length ⟨0, ?_⟩ ?_
 ·simp +contextual -dsimp -implicitDefEqProofs (maxSteps:=5000000) only [go_sem,reduceIte,reduceCtorEq,Nat.reduceEqDiff,Nat.reduceBEq,Nat.reduceAdd,Nat.reduceLeDiff,Nat.reduceMul,Nat.reduceLT,Int.reduceEq,Int.reduceLT,Int.reduceLE]
  simp
 ·rintro m tm _ ⟨k, rfl, hk, rfl, h0, h1, h7, h8, hn⟩
  simp +contextual -dsimp -implicitDefEqProofs (maxSteps:=5000000) only [go_sem,reduceIte,reduceCtorEq,Nat.reduceEqDiff,Nat.reduceBEq,Nat.reduceAdd,Nat.reduceLeDiff,Nat.reduceMul,Nat.reduceLT,Int.reduceEq,Int.reduceLT,Int.reduceLE,h0,h1,h7,h8]
  refine ⟨fun h => (hp _).det ?_, fun h => ?_⟩
  ·simp +contextual -dsimp -implicitDefEqProofs (maxSteps:=5000000) only [go_sem,reduceIte,reduceCtorEq,Nat.reduceEqDiff,Nat.reduceBEq,Nat.reduceAdd,Nat.reduceLeDiff,Nat.reduceMul,Nat.reduceLT,Int.reduceEq,Int.reduceLT,Int.reduceLE,h0,h1,h7,h8]
   refine ⟨fun hb => ?_, fun hb => ⟨_, ?_, k + 1, rfl, h, I_wrap (by omega) (by omega) (by omega), any_take h hn hb⟩⟩
   ·rw [idxF_at h hn hb]
   ·omega
  ·rw [idxF_none (by omega) hn]
theorem c_ContainsFuncInt (l : List Int) (cl : Bool) (g : FuncId) (caps : List AV) (p : Int → Bool) (H : AHeap)
  (hp : ∀ c, ACalls Tryz.prog g (I c :: caps) H fun r H' => r = B (p c) ∧ H' = H) :
  ACalls Tryz.prog 112 [.vsl (l.map rI) cl, .fn g [] caps] H fun r H' => r = B (l.any p) ∧ H' = H := by
 refine acalls_of0 Tryz.func112 rfl (by kernel_rfl) rfl rfl (awp_sound (fz := fun _ => []) (im := fun _ => false) mixed _ _ _ _ (by kernel_rfl) ?_)
 simp +contextual -dsimp -implicitDefEqProofs (maxSteps:=5000000) only [go_sem,reduceIte,reduceCtorEq,Nat.reduceEqDiff,Nat.reduceBEq,Nat.reduceAdd,Nat.reduceLeDiff,Nat.reduceMul,Nat.reduceLT,Int.reduceEq,Int.reduceLT,Int.reduceLE]
 refine (c_IndexFuncInt l cl g caps p H hp).det ?_
 simp +contextual -dsimp -implicitDefEqProofs (maxSteps:=5000000) only [go_sem,reduceIte,reduceCtorEq,Nat.reduceEqDiff,Nat.reduceBEq,Nat.reduceAdd,Nat.reduceLeDiff,Nat.reduceMul,Nat.reduceLT,Int.reduceEq,Int.reduceLT,Int.reduceLE,idxF_nonneg]
theorem walkG_len (nx : Int → Int) : ∀ (n : Nat) (out : List Int) (f : Int), (walkG nx n out f).length ≤ out.length + n
 | 0, out, f => Nat.le_refl _
 | n + 1, out, f => by
  simp only [walkG]
  split
  ·have := walkG_len nx n (out ++ [f]) (nx f)
   simp at this
   omega
  ·omega
theorem chainF_len (h : List Fault) (f : Int) : (chainF h f).length ≤ h.length + 1 := by
 have := walkG_len (ctxOf h) (h.length + 1) [] f
 simpa [chainF, walkF] using this
theorem chainF_in {h : List Fault} (hc : ∀ k, k < h.length → (h.getD k default).ctx < h.length) {f : Int} (hf : f < h.length) {a : Int} (ha : a ∈ chainF h f) : 0 ≤ a ∧ a < h.length := by
 have := walkG_mem (nx := ctxOf h) (p := fun a => a < h.length) (fun a a0 a1 => hc a.toNat (by omega)) (h.length + 1) [] f hf a ha
 simpa using this
def lastI (l : List Int) : Int := l.getD (l.length - 1) default
theorem lastI_in {h : List Fault} (hc : ∀ k, k < h.length → (h.getD k default).ctx < h.length) {f : Int} (h0 : 0 ≤ f) (hf : f < h.length) : 0 ≤ lastI (chainF h f) ∧ lastI (chainF h f) < h.length := by
 have hne := List.length_pos_iff.2 (chainF_ne (h := h) h0)
 apply chainF_in hc hf
 have : (chainF h f).length - 1 < (chainF h f).length := by omega
 unfold lastI
 rw [List.getD_eq_getElem?_getD, List.getElem?_eq_getElem this]
 exact List.getElem_mem this
def faultOk (t : List Class) (h : List Fault) (k : Nat) : Bool := hasF t (h.getD k default).cls && inR (h.getD k default).code 0 99 && linkF h.length k (h.getD k default).cause && linkF h.length k (h.getD k default).ctx
def lastOk (h : List Fault) (k : Nat) : Bool := decide (ctxOf h (lastI (chainF h k)) = -1)
def validH (t : List Class) (h : List Fault) : Bool := (List.range h.length).all (faultOk t h) && ((List.range h.length).all (lastOk h) && (validT t && decide (h.length ≤ 24)))
theorem faultOk_links {t : List Class} {h : List Fault} (hv : (List.range h.length).all (faultOk t h) = true) : ∀ k, k < h.length → -1 ≤ (h.getD k default).ctx ∧ (h.getD k default).ctx < h.length ∧ -1 ≤ (h.getD k default).cause ∧ (h.getD k default).cause < h.length := by
 intro k hk
 rw [List.all_eq_true] at hv
 have := hv k (by simp [hk])
 simp only [faultOk,linkF,inR,Bool.and_eq_true,Bool.or_eq_true,decide_eq_true_eq,Bool.not_eq_true'] at this
 omega
theorem range_next {p : Nat → Bool} {k : Nat} (h : (List.range k).all p = true) (e : p k = true) : (List.range (k + 1)).all p = true := by
 rw [List.range_succ, List.all_append, h]; simp [e]
theorem range_bad {p : Nat → Bool} {k n : Nat} (h : k < n) (e : p k = false) : (List.range n).all p = false := by
 rw [List.all_eq_false]; exact ⟨k, by simp [h], by simp [e]⟩
theorem c_ValidHeap (t : List Class) (cl : Bool) (h : List Fault) (cl' : Bool) (H : AHeap) (hn : namesOk t) (hl : h.length ≤ 1000000) : ACalls Tryz.prog 111 [aTree t cl, aHeap h cl'] H fun r H' => r = B (validH t h) ∧ H' = H := by
 refine acalls_of0 Tryz.func111 rfl (by kernel_rfl) rfl rfl (awp_sound (fz := fun r => if r = 4 then [7] else []) (im := fun s => s == 2 || s == 3) mixed _ _ _ _ (by kernel_rfl) ?_)
 simp +contextual -dsimp -implicitDefEqProofs (maxSteps:=5000000) only [go_sem,reduceIte,reduceCtorEq,Nat.reduceEqDiff,Nat.reduceBEq,Nat.reduceAdd,Nat.reduceLeDiff,Nat.reduceMul,Nat.reduceLT,Int.reduceEq,Int.reduceLT,Int.reduceLE]
 refine aloop mixed (fz := fun r => if r = 4 then [7] else []) (im := fun s => s == 2 || s == 3) (by kernel_rfl) (fun m tm H' => ∃ k : Nat, m = h.length - k ∧ k ≤ h.length ∧ H' = H ∧ tm 2 = .vptr [[.vsl (t.map rClass) cl]] 0 0 ∧ tm 3 = .vptr [[.vsl (h.map rFault) cl']] 0 0 ∧ tm 5 = .fn 156 [] [.vptr [[.vsl (h.map rFault) cl']] 0 0] ∧ tm 12 = .vsl (h.map rFault) cl' ∧ tm 13 = I h.length ∧ tm 14 = I k ∧ (List.range k).all (faultOk t h) = true) h.length ⟨0, by omega, by omega, rfl, ?_⟩ ?_
 ·simp +contextual -dsimp -implicitDefEqProofs (maxSteps:=5000000) only [go_sem,reduceIte,reduceCtorEq,Nat.reduceEqDiff,Nat.reduceBEq,Nat.reduceAdd,Nat.reduceLeDiff,Nat.reduceMul,Nat.reduceLT,Int.reduceEq,Int.reduceLT,Int.reduceLE]
  rfl
 ·rintro m tm H ⟨k, rfl, hk, rfl, h2, h3, h5, h12, h13, h14, hv⟩
  by_cases hlt : k < h.length
  ·have bad : faultOk t h k = false → validH t h = false := fun e => by unfold validH; rw [range_bad hlt e]; rfl
   unfold faultOk at bad
   simp +contextual -dsimp -implicitDefEqProofs (maxSteps:=5000000) only [go_sem,reduceIte,reduceCtorEq,Nat.reduceEqDiff,Nat.reduceBEq,Nat.reduceAdd,Nat.reduceLeDiff,Nat.reduceMul,Nat.reduceLT,Int.reduceEq,Int.reduceLT,Int.reduceLE,h2,h3,h5,h12,h13,h14,hlt]
   intro b hb
   refine (c_has t cl _ _).det ?_
   cases e1 : hasF t (h.getD k default).cls
   ·simp +contextual -dsimp -implicitDefEqProofs (maxSteps:=5000000) only [go_sem,reduceIte,reduceCtorEq,Nat.reduceEqDiff,Nat.reduceBEq,Nat.reduceAdd,Nat.reduceLeDiff,Nat.reduceMul,Nat.reduceLT,Int.reduceEq,Int.reduceLT,Int.reduceLE,h2,h3,h5,h12,h13,h14,hlt]
    rw [bad (by simp only [e1,Bool.false_and])]
   ·simp +contextual -dsimp -implicitDefEqProofs (maxSteps:=5000000) only [go_sem,reduceIte,reduceCtorEq,Nat.reduceEqDiff,Nat.reduceBEq,Nat.reduceAdd,Nat.reduceLeDiff,Nat.reduceMul,Nat.reduceLT,Int.reduceEq,Int.reduceLT,Int.reduceLE,h2,h3,h5,h12,h13,h14,hlt]
    refine (c_codeOk _ _).det ?_
    cases e2 : inR (h.getD k default).code 0 99
    ·simp +contextual -dsimp -implicitDefEqProofs (maxSteps:=5000000) only [go_sem,reduceIte,reduceCtorEq,Nat.reduceEqDiff,Nat.reduceBEq,Nat.reduceAdd,Nat.reduceLeDiff,Nat.reduceMul,Nat.reduceLT,Int.reduceEq,Int.reduceLT,Int.reduceLE,h2,h3,h5,h12,h13,h14,hlt]
     rw [bad (by simp only [e1,e2,Bool.false_and,Bool.and_false])]
    ·simp +contextual -dsimp -implicitDefEqProofs (maxSteps:=5000000) only [go_sem,reduceIte,reduceCtorEq,Nat.reduceEqDiff,Nat.reduceBEq,Nat.reduceAdd,Nat.reduceLeDiff,Nat.reduceMul,Nat.reduceLT,Int.reduceEq,Int.reduceLT,Int.reduceLE,h2,h3,h5,h12,h13,h14,hlt]
     refine (c_link h cl' _ _ _).det ?_
     cases e3 : linkF h.length k (h.getD k default).cause
     ·simp +contextual -dsimp -implicitDefEqProofs (maxSteps:=5000000) only [go_sem,reduceIte,reduceCtorEq,Nat.reduceEqDiff,Nat.reduceBEq,Nat.reduceAdd,Nat.reduceLeDiff,Nat.reduceMul,Nat.reduceLT,Int.reduceEq,Int.reduceLT,Int.reduceLE,h2,h3,h5,h12,h13,h14,hlt]
      rw [bad (by simp only [e1,e2,e3,Bool.false_and,Bool.and_false])]
     ·simp +contextual -dsimp -implicitDefEqProofs (maxSteps:=5000000) only [go_sem,reduceIte,reduceCtorEq,Nat.reduceEqDiff,Nat.reduceBEq,Nat.reduceAdd,Nat.reduceLeDiff,Nat.reduceMul,Nat.reduceLT,Int.reduceEq,Int.reduceLT,Int.reduceLE,h2,h3,h5,h12,h13,h14,hlt]
      refine (c_link h cl' _ _ _).det ?_
      cases e4 : linkF h.length k (h.getD k default).ctx
      ·simp +contextual -dsimp -implicitDefEqProofs (maxSteps:=5000000) only [go_sem,reduceIte,reduceCtorEq,Nat.reduceEqDiff,Nat.reduceBEq,Nat.reduceAdd,Nat.reduceLeDiff,Nat.reduceMul,Nat.reduceLT,Int.reduceEq,Int.reduceLT,Int.reduceLE,h2,h3,h5,h12,h13,h14,hlt]
       rw [bad (by simp only [e4,Bool.and_false])]
      ·simp +contextual -dsimp -implicitDefEqProofs (maxSteps:=5000000) only [go_sem,reduceIte,reduceCtorEq,Nat.reduceEqDiff,Nat.reduceBEq,Nat.reduceAdd,Nat.reduceLeDiff,Nat.reduceMul,Nat.reduceLT,Int.reduceEq,Int.reduceLT,Int.reduceLE,h2,h3,h5,h12,h13,h14,hlt]
       exact ⟨_, by omega, k + 1, rfl, hlt, I_wrap (by omega) (by omega) (by omega), range_next hv (by simp only [faultOk,e1,e2,e3,e4,Bool.and_self])⟩
  ·simp +contextual -dsimp -implicitDefEqProofs (maxSteps:=5000000) only [go_sem,reduceIte,reduceCtorEq,Nat.reduceEqDiff,Nat.reduceBEq,Nat.reduceAdd,Nat.reduceLeDiff,Nat.reduceMul,Nat.reduceLT,Int.reduceEq,Int.reduceLT,Int.reduceLE,h2,h3,h5,h12,h13,h14,hlt]
   have hkl : k = h.length := by omega
   subst hkl
   have hlk := faultOk_links hv
   refine aloop mixed (fz := fun r => if r = 4 then [7] else []) (im := fun s => s == 2 || s == 3) (by kernel_rfl) (fun m tm H' => ∃ k : Nat, m = h.length - k ∧ k ≤ h.length ∧ H' = H ∧ tm 2 = .vptr [[.vsl (t.map rClass) cl]] 0 0 ∧ tm 3 = .vptr [[.vsl (h.map rFault) cl']] 0 0 ∧ tm 49 = I h.length ∧ tm 50 = I k ∧ (List.range k).all (lastOk h) = true) h.length ⟨0, by omega, by omega, rfl, ?_⟩ ?_
   ·simp +contextual -dsimp -implicitDefEqProofs (maxSteps:=5000000) only [go_sem,reduceIte,reduceCtorEq,Nat.reduceEqDiff,Nat.reduceBEq,Nat.reduceAdd,Nat.reduceLeDiff,Nat.reduceMul,Nat.reduceLT,Int.reduceEq,Int.reduceLT,Int.reduceLE,h2,h3]
    rfl
   ·rintro m tm H ⟨k, rfl, hk, rfl, g2, g3, g49, g50, hw⟩
    by_cases hlt : k < h.length
    ·simp +contextual -dsimp -implicitDefEqProofs (maxSteps:=5000000) only [go_sem,reduceIte,reduceCtorEq,Nat.reduceEqDiff,Nat.reduceBEq,Nat.reduceAdd,Nat.reduceLeDiff,Nat.reduceMul,Nat.reduceLT,Int.reduceEq,Int.reduceLT,Int.reduceLE,g2,g3,g49,g50,hlt]
     refine acalls_frz (c_contexts h cl' k H hl (by omega) (fun k hk => (hlk k hk).2.1)) fun cl1 => ?_
     simp +contextual -dsimp -implicitDefEqProofs (maxSteps:=5000000) only [go_sem,reduceIte,reduceCtorEq,Nat.reduceEqDiff,Nat.reduceBEq,Nat.reduceAdd,Nat.reduceLeDiff,Nat.reduceMul,Nat.reduceLT,Int.reduceEq,Int.reduceLT,Int.reduceLE,g2,g3,g49,g50,hlt]
     have c1 := List.length_pos_iff.2 (chainF_ne (h := h) (g := k) (by omega))
     have c2 := chainF_len h k
     have c3 := lastI_in (fun k hk => (hlk k hk).2.1) (f := k) (by omega) (by omega)
     have hw1 : IntKind.i64.wrap (((chainF h k).length : Int) - 1) = (((chainF h k).length - 1 : Nat) : Int) := by
      have := I_wrap (a := ((chainF h k).length : Int) - 1) (b := (((chainF h k).length - 1 : Nat) : Int)) (by omega) (by omega) (by omega)
      injection this with q
      injection q
     have c4 : (chainF h k).length - 1 < (chainF h k).length := by omega
     refine draw_intro [0, 0, 0, 0, 0, 0, 0, 0, 0, 0, 0, 0] AHeap.none (by kernel_rfl) none_le ?_
     simp +contextual -dsimp -implicitDefEqProofs (maxSteps:=5000000) only [go_sem,reduceIte,reduceCtorEq,Nat.reduceEqDiff,Nat.reduceBEq,Nat.reduceAdd,Nat.reduceLeDiff,Nat.reduceMul,Nat.reduceLT,Int.reduceEq,Int.reduceLT,Int.reduceLE,g2,g3,g49,g50,hlt,hw1,c1,c4,c3]
     have bad : lastOk h k = false → validH t h = false := fun e => by simp [validH, range_bad hlt e]
     unfold lastOk ctxOf lastI at bad
     unfold lastI at c3
     exact ⟨⟨c3.1, c3.2⟩, by omega, fun hne => by rw [bad (decide_eq_false hne)], fun he => ⟨_, by omega, k + 1, rfl, hlt, I_wrap (by omega) (by omega) (by omega), range_next hw (decide_eq_true he)⟩⟩
    ·simp +contextual -dsimp -implicitDefEqProofs (maxSteps:=5000000) only [go_sem,reduceIte,reduceCtorEq,Nat.reduceEqDiff,Nat.reduceBEq,Nat.reduceAdd,Nat.reduceLeDiff,Nat.reduceMul,Nat.reduceLT,Int.reduceEq,Int.reduceLT,Int.reduceLE,g2,g3,g49,g50,hlt]
     have hkl : k = h.length := by omega
     subst hkl
     refine (c_ValidTree t cl _ hn).det ?_
     cases e1 : validT t
     ·simp +contextual -dsimp -implicitDefEqProofs (maxSteps:=5000000) only [go_sem,reduceIte,reduceCtorEq,Nat.reduceEqDiff,Nat.reduceBEq,Nat.reduceAdd,Nat.reduceLeDiff,Nat.reduceMul,Nat.reduceLT,Int.reduceEq,Int.reduceLT,Int.reduceLE,g2,g3]
      simp [validH, e1]
     ·simp +contextual -dsimp -implicitDefEqProofs (maxSteps:=5000000) only [go_sem,reduceIte,reduceCtorEq,Nat.reduceEqDiff,Nat.reduceBEq,Nat.reduceAdd,Nat.reduceLeDiff,Nat.reduceMul,Nat.reduceLT,Int.reduceEq,Int.reduceLT,Int.reduceLE,g2,g3]
      simp only [validH,hv,hw,e1,Bool.true_and]
      exact congrArg B (decide_eq_decide.2 (by omega))
theorem c_faultsIn (t : List Class) (cl : Bool) (h : List Fault) (cl' : Bool) (l : List Int) (cl2 : Bool) (H : AHeap) (hn : namesOk t) (hl : h.length ≤ 1000000) : ACalls Tryz.prog 65 [aTree t cl, aHeap h cl', .vsl (l.map rI) cl2] H fun r H' => r = B (validH t h && l.all fun f => inR f 0 (h.length - 1)) ∧ H' = H := by
 refine acalls_of0 Tryz.func65 rfl (by kernel_rfl) rfl rfl (awp_sound (fz := fun _ => []) (im := fun s => s == 3 || s == 4) mixed _ _ _ _ (by kernel_rfl) ?_)
 simp +contextual -dsimp -implicitDefEqProofs (maxSteps:=5000000) only [go_sem,reduceIte,reduceCtorEq,Nat.reduceEqDiff,Nat.reduceBEq,Nat.reduceAdd,Nat.reduceLeDiff,Nat.reduceMul,Nat.reduceLT,Int.reduceEq,Int.reduceLT,Int.reduceLE]
 refine (c_ValidHeap t cl h cl' _ hn hl).det ?_
 cases e1 : validH t h
 ·simp +contextual -dsimp -implicitDefEqProofs (maxSteps:=5000000) only [go_sem,reduceIte,reduceCtorEq,Nat.reduceEqDiff,Nat.reduceBEq,Nat.reduceAdd,Nat.reduceLeDiff,Nat.reduceMul,Nat.reduceLT,Int.reduceEq,Int.reduceLT,Int.reduceLE]
 ·simp +contextual -dsimp -implicitDefEqProofs (maxSteps:=5000000) only [go_sem,reduceIte,reduceCtorEq,Nat.reduceEqDiff,Nat.reduceBEq,Nat.reduceAdd,Nat.reduceLeDiff,Nat.reduceMul,Nat.reduceLT,Int.reduceEq,Int.reduceLT,Int.reduceLE]
  refine (c_ContainsFuncInt l cl2 _ _ (fun f => !inR f 0 (h.length - 1)) _ (fun c => c_faultsIn1 h cl' c _)).det ?_
  simp +contextual -dsimp -implicitDefEqProofs (maxSteps:=5000000) only [go_sem,reduceIte,reduceCtorEq,Nat.reduceEqDiff,Nat.reduceBEq,Nat.reduceAdd,Nat.reduceLeDiff,Nat.reduceMul,Nat.reduceLT,Int.reduceEq,Int.reduceLT,Int.reduceLE]
  congr 1
  rw [Bool.eq_iff_iff]
  simp
end
section
open Go Go.Sim
set_option maxRecDepth 100000

theorem getD_app {α : Type} {a b : List α} {d : α} {i : Nat} (h : i < a.length) : (a ++ b).getD i d = a.getD i d := by
 rw [List.getD_eq_getElem?_getD, List.getD_eq_getElem?_getD, List.getElem?_append_left h]
theorem walkG_step {nx : Int → Int} : ∀ (n : Nat) (out : List Int) (f : Int), (∀ i, i + 1 < out.length → out.getD (i + 1) default = nx (out.getD i default)) → (∀ i, i + 1 = out.length → nx (out.getD i default) = f) →
  ∀ i, i + 1 < (walkG nx n out f).length → (walkG nx n out f).getD (i + 1) default = nx ((walkG nx n out f).getD i default)
 | 0, out, f, h, _, i, hi => h i hi
 | n + 1, out, f, h, h2, i, hi => by
  simp only [walkG] at hi ⊢
  by_cases c : 0 ≤ f ∧ (out.any fun x => decide (f = x)) = false
  ·rw [if_pos c] at hi ⊢
   refine walkG_step n (out ++ [f]) (nx f) ?_ ?_ i hi
   ·intro j hj
    rw [List.length_append, List.length_singleton] at hj
    rcases Nat.lt_or_ge (j + 1) out.length with q | q
    ·rw [getD_app q, getD_app (show j < out.length by omega)]
     exact h j q
    ·have e : j + 1 = out.length := by omega
     rw [getD_app (show j < out.length by omega), h2 j e, e]
     simp [List.getD_eq_getElem?_getD]
   ·intro j hj
    rw [List.length_append, List.length_singleton] at hj
    have e : j = out.length := by omega
    subst e
    simp [List.getD_eq_getElem?_getD]
  ·rw [if_neg c] at hi ⊢
   exact h i hi
theorem walkG_pre {nx : Int → Int} : ∀ (n : Nat) (out : List Int) (f : Int) (i : Nat), i < out.length → (walkG nx n out f).getD i default = out.getD i default
 | 0, out, f, i, hi => rfl
 | n + 1, out, f, i, hi => by
  simp only [walkG]
  split
  ·rw [walkG_pre n (out ++ [f]) (nx f) i (by simp; omega), getD_app hi]
  ·rfl
theorem chain_step {h : List Fault} {g : Int} {i : Nat} (hi : i + 1 < (chainF h g).length) : (chainF h g).getD (i + 1) default = ctxOf h ((chainF h g).getD i default) :=
 walkG_step (h.length + 1) [] g (fun i q => by simp at q) (fun i q => by simp at q) i hi
theorem chain_head {h : List Fault} {g : Int} (h0 : 0 ≤ g) : (chainF h g).getD 0 default = g := by
 unfold chainF walkF
 simp only [walkG]
 rw [if_pos ⟨h0, rfl⟩, walkG_pre _ _ _ 0 (by simp)]
 rfl
def cutAt (h : List Fault) (f : Int) (l : List Int) : List Fault := match l.find? (fun x => decide (ctxOf h x = f)) with
 | some x => h.set x.toNat { h.getD x.toNat default with ctx := -1 }
 | none => h
def raisedF (h : List Fault) (f g : Int) : List Fault := if f = g ∨ g < 0 then h else (cutAt h f (chainF h g)).set f.toNat { (cutAt h f (chainF h g)).getD f.toNat default with ctx := g }
theorem cutAt_len (h : List Fault) (f : Int) (l : List Int) : (cutAt h f l).length = h.length := by unfold cutAt; split <;> simp
theorem raisedF_len (h : List Fault) (f g : Int) : (raisedF h f g).length = h.length := by unfold raisedF; split <;> simp [cutAt_len]
theorem cutAt_at {h : List Fault} {f : Int} {l : List Int} {i : Nat} (hi : i < l.length) (hn : (l.take i).any (fun x => decide (ctxOf h x = f)) = false) (hc : ctxOf h (l.getD i default) = f) : cutAt h f l = h.set (l.getD i default).toNat { h.getD (l.getD i default).toNat default with ctx := -1 } := by
 have : l.find? (fun x => decide (ctxOf h x = f)) = some (l.getD i default) := by
  have e : l.getD i default = l[i] := by simp [List.getD_eq_getElem?_getD, hi]
  rw [List.find?_eq_some_iff_getElem]
  refine ⟨decide_eq_true hc, i, hi, e.symm, fun j hj => ?_⟩
  rw [List.any_eq_false] at hn
  have := hn l[j] (by rw [List.mem_take_iff_getElem]; exact ⟨j, by omega, rfl⟩)
  simpa using this
 unfold cutAt
 rw [this]
structure Calm (h : List Fault) : Prop where
 ctx : ∀ k, k < h.length → -1 ≤ (h.getD k default).ctx ∧ (h.getD k default).ctx < h.length
 last : ∀ k, k < h.length → lastOk h k = true
theorem Calm.at {h : List Fault} (hc : Calm h) {g : Int} (h0 : 0 ≤ g) (hg : g < h.length) {i : Nat} (hi : i < (chainF h g).length) : (i + 1 < (chainF h g).length ∧ 0 ≤ ctxOf h ((chainF h g).getD i default)) ∨ (i + 1 = (chainF h g).length ∧ ctxOf h ((chainF h g).getD i default) = -1) := by
 rcases Nat.lt_or_ge (i + 1) (chainF h g).length with q | q
 ·left
  refine ⟨q, ?_⟩
  rw [← chain_step q, List.getD_eq_getElem?_getD, List.getElem?_eq_getElem q]
  exact (chainF_in (fun k hk => (hc.ctx k hk).2) hg (List.getElem_mem q)).1
 ·right
  have e : i + 1 = (chainF h g).length := by omega
  refine ⟨e, ?_⟩
  have := hc.last g.toNat (by omega)
  rw [lastOk, decide_eq_true_eq, lastI, Int.toNat_of_nonneg h0, ← e] at this
  simpa using this
end
section
open Go Go.Sim
set_option maxRecDepth 100000

def EndsAt (nx : Int → Int) : Nat → Int → Prop
 | 0, a => a < 0
 | m + 1, a => 0 ≤ a ∧ EndsAt nx m (nx a)
theorem EndsAt.uniq {nx : Int → Int} : ∀ {m m' : Nat} {a : Int}, EndsAt nx m a → EndsAt nx m' a → m = m'
 | 0, 0, _, _, _ => rfl
 | 0, m' + 1, a, h, h' => by have := h'.1; simp only [EndsAt] at h; omega
 | m + 1, 0, a, h, h' => by have := h.1; simp only [EndsAt] at h'; omega
 | m + 1, m' + 1, a, h, h' => by rw [EndsAt.uniq h.2 h'.2]
def Ends (nx : Int → Int) (a : Int) : Prop := ∃ m, EndsAt nx m a
theorem Ends.neg {nx : Int → Int} {a : Int} (h : a < 0) : Ends nx a := ⟨0, h⟩
theorem Ends.step {nx : Int → Int} {a : Int} (h : Ends nx (nx a)) : Ends nx a := by
 obtain ⟨m, hm⟩ := h
 by_cases c : a < 0
 ·exact .neg c
 ·exact ⟨m + 1, by omega, hm⟩
theorem Ends.ind {nx : Int → Int} {p : Int → Prop} (h0 : ∀ a, a < 0 → p a) (h1 : ∀ a, 0 ≤ a → p (nx a) → p a) {a : Int} (h : Ends nx a) : p a := by
 obtain ⟨m, hm⟩ := h
 induction m generalizing a with
 | zero => exact h0 a hm
 | succ m ih => exact h1 a hm.1 (ih hm.2)
theorem walkG_end {nx : Int → Int} {n : Nat} (hnx : ∀ a : Int, 0 ≤ a → a < n → nx a < n) : ∀ (m fuel : Nat) (out : List Int) (f : Int), EndsAt nx m f → f < n → (∀ a ∈ out, ∃ m', m < m' ∧ EndsAt nx m' a) → freeN n out < fuel → (out ≠ [] → nx (lastI out) = f) → walkG nx fuel out f ≠ [] → nx (lastI (walkG nx fuel out f)) < 0
 | m, 0, out, f, _, _, _, hfr, _, _ => by omega
 | 0, fuel + 1, out, f, he, hf, ho, hfr, hl, hne => by
  have hf0 : f < 0 := he
  simp only [walkG] at hne ⊢
  rw [if_neg (by omega)] at hne ⊢
  rw [hl hne]; exact hf0
 | m + 1, fuel + 1, out, f, he, hf, ho, hfr, hl, hne => by
  have hany : (out.any fun x => decide (f = x)) = false := by
   rw [List.any_eq_false]
   intro a ha
   obtain ⟨m', h1, h2⟩ := ho a ha
   have : ¬ f = a := by
    rintro rfl
    have := he.uniq h2
    omega
   simpa using this
  simp only [walkG] at hne ⊢
  rw [if_pos ⟨he.1, hany⟩] at hne ⊢
  have := freeN_lt he.1 hf hany
  refine walkG_end hnx m fuel (out ++ [f]) (nx f) he.2 (hnx f he.1 hf) ?_ (by omega) ?_ hne
  ·intro a ha
   rcases List.mem_append.1 ha with q | q
   ·obtain ⟨m', h1, h2⟩ := ho a q
    exact ⟨m', by omega, h2⟩
   ·simp at q; subst q
    exact ⟨m + 1, by omega, he⟩
  ·intro _
   congr 1
   simp [lastI, List.getD_eq_getElem?_getD]
theorem Calm.of_ends {h : List Fault} (hc : ∀ k, k < h.length → -1 ≤ (h.getD k default).ctx ∧ (h.getD k default).ctx < h.length) (he : ∀ k : Nat, k < h.length → Ends (ctxOf h) k) : Calm h := by
 refine ⟨hc, fun k hk => ?_⟩
 obtain ⟨m, hm⟩ := he k hk
 have hne := chainF_ne (h := h) (g := k) (by omega)
 have hnx : ∀ a : Int, 0 ≤ a → a < h.length → ctxOf h a < h.length := fun a a0 a1 => (hc a.toNat (by omega)).2
 have := walkG_end hnx m (h.length + 1) [] k hm (by omega) (fun a ha => by cases ha) (by have := freeN_nil h.length; omega) (fun q => absurd rfl q) hne
 have hin := lastI_in (fun k hk => (hc k hk).2) (f := k) (by omega) (by omega)
 have h1 := hc (lastI (chainF h k)).toNat (by omega)
 rw [lastOk, decide_eq_true_eq]
 unfold ctxOf at this ⊢
 unfold chainF walkF at h1 ⊢
 unfold ctxOf at h1 ⊢
 omega
theorem Calm.ends {h : List Fault} (hc : Calm h) {k : Int} (h0 : 0 ≤ k) (hk : k < h.length) : Ends (ctxOf h) k := by
 have hne := List.length_pos_iff.2 (chainF_ne (h := h) h0)
 have key : ∀ j, j < (chainF h k).length → Ends (ctxOf h) ((chainF h k).getD ((chainF h k).length - 1 - j) default) := by
  intro j
  induction j with
  | zero =>
   intro hj
   rcases hc.at h0 hk (i := (chainF h k).length - 1 - 0) (by omega) with ⟨q, _⟩ | ⟨_, q⟩
   ·omega
   ·exact .step (.neg (by omega))
  | succ j ih =>
   intro hj
   have e : (chainF h k).length - 1 - j = ((chainF h k).length - 1 - (j + 1)) + 1 := by omega
   have := ih (by omega)
   rw [e, chain_step (by omega)] at this
   exact .step this
 have := key ((chainF h k).length - 1) (by omega)
 rw [Nat.sub_self, chain_head h0] at this
 exact this
end
section
open Go Go.Sim
set_option maxRecDepth 100000

theorem getD_set {α : Type} {l : List α} {i j : Nat} {x d : α} (h : i < l.length) : (l.set i x).getD j d = if i = j then x else l.getD j d := by
 rw [List.getD_eq_getElem?_getD, List.getD_eq_getElem?_getD, List.getElem?_set]
 split
 ·rename_i e; subst e; simp [h]
 ·rfl
theorem ctx_set {h : List Fault} {i : Nat} {x : Fault} {a : Int} (hi : i < h.length) : ctxOf (h.set i x) a = if i = a.toNat then x.ctx else ctxOf h a := by
 unfold ctxOf
 rw [getD_set hi]
 split <;> rfl
theorem cut_ctx {h : List Fault} {f : Int} {l : List Int} (hl : ∀ x ∈ l, 0 ≤ x ∧ x < h.length) {a : Int} (a0 : 0 ≤ a) : ctxOf (cutAt h f l) a = ctxOf h a ∨ (ctxOf (cutAt h f l) a = -1 ∧ ctxOf h a = f) := by
 unfold cutAt
 split
 ·rename_i x hx
  have hm := hl x (List.mem_of_find?_eq_some hx)
  have hp := List.find?_some hx
  rw [ctx_set (by omega)]
  by_cases e : x.toNat = a.toNat
  ·rw [if_pos e]
   right
   have : x = a := by omega
   subst this
   exact ⟨rfl, by simpa using hp⟩
  ·rw [if_neg e]; exact .inl rfl
 ·exact .inl rfl
theorem Calm.raised {h : List Fault} (hc : Calm h) {f g : Int} (f0 : 0 ≤ f) (hf : f < h.length) (hg : g < h.length) : Calm (raisedF h f g) := by
 by_cases hb : f = g ∨ g < 0
 ·rw [raisedF, if_pos hb]; exact hc
 have g0 : 0 ≤ g := by omega
 have hfg : ¬ f = g := by omega
 have hlin : ∀ x ∈ chainF h g, 0 ≤ x ∧ x < h.length := fun x hx => chainF_in (fun k hk => (hc.ctx k hk).2) hg hx
 have e2 : ∀ a : Int, 0 ≤ a → ctxOf (raisedF h f g) a = if f = a then g else ctxOf (cutAt h f (chainF h g)) a := by
  intro a a0
  rw [raisedF, if_neg hb, ctx_set (by rw [cutAt_len]; omega)]
  by_cases e : f = a
  ·subst e; rw [if_pos rfl, if_pos rfl]
  ·rw [if_neg e, if_neg (by omega)]
 have ec : ∀ a : Int, 0 ≤ a → ¬ f = a → ctxOf (raisedF h f g) a = ctxOf h a ∨ (ctxOf (raisedF h f g) a = -1 ∧ ctxOf h a = f) := by
  intro a a0 e
  rw [e2 a a0, if_neg e]
  exact cut_ctx hlin a0
 have hEg : ∀ (j i : Nat), (chainF h g).length - i ≤ j → i < (chainF h g).length → ((chainF h g).take i).any (fun x => decide (ctxOf h x = f)) = false → Ends (ctxOf (raisedF h f g)) ((chainF h g).getD i default) := by
  intro j
  induction j with
  | zero => intro i h1 h2; omega
  | succ j ih =>
   intro i h1 h2 h3
   have hm : (chainF h g).getD i default ∈ chainF h g := by
    rw [List.getD_eq_getElem?_getD, List.getElem?_eq_getElem h2]; exact List.getElem_mem h2
   have hin := hlin _ hm
   have hne : ¬ f = (chainF h g).getD i default := by
    cases i with
    | zero => rw [chain_head g0]; exact hfg
    | succ i =>
     rw [chain_step h2]
     rw [List.any_eq_false] at h3
     have hi : i < (chainF h g).length := by omega
     have := h3 ((chainF h g).getD i default) (by rw [List.getD_eq_getElem?_getD, List.getElem?_eq_getElem hi, List.mem_take_iff_getElem]; exact ⟨i, by omega, rfl⟩)
     intro q
     exact this (decide_eq_true q.symm)
   refine .step ?_
   by_cases hx : ctxOf h ((chainF h g).getD i default) = f
   ·have : ctxOf (raisedF h f g) ((chainF h g).getD i default) = -1 := by
     rw [e2 _ hin.1, if_neg hne, cutAt_at h2 h3 hx, ctx_set (by omega), if_pos rfl]
    rw [this]; exact .neg (by omega)
   ·rcases ec _ hin.1 hne with q | ⟨_, q⟩
    ·rw [q]
     rcases hc.at g0 hg h2 with ⟨q1, q2⟩ | ⟨q1, q2⟩
     ·rw [← chain_step q1]
      exact ih (i + 1) (by omega) q1 (any_take h2 h3 (d := default) (decide_eq_false hx))
     ·rw [q2]; exact .neg (by omega)
    ·exact absurd q hx
 have hne := List.length_pos_iff.2 (chainF_ne (h := h) g0)
 have hg' : Ends (ctxOf (raisedF h f g)) g := by
  have := hEg (chainF h g).length 0 (by omega) hne rfl
  rwa [chain_head g0] at this
 have hall : ∀ a : Int, Ends (ctxOf h) a → Ends (ctxOf (raisedF h f g)) a := by
  intro a ha
  refine Ends.ind (p := fun a => Ends (ctxOf (raisedF h f g)) a) (fun a q => .neg q) (fun a a0 q => ?_) ha
  refine .step ?_
  by_cases e : f = a
  ·rw [e2 a a0, if_pos e]; exact hg'
  ·rcases ec a a0 e with q1 | ⟨q1, _⟩
   ·rw [q1]; exact q
   ·rw [q1]; exact .neg (by omega)
 refine .of_ends (fun k hk => ?_) (fun k hk => ?_)
 ·rw [raisedF_len] at hk ⊢
  have hk2 := hc.ctx k hk
  show -1 ≤ ctxOf (raisedF h f g) (k : Int) ∧ ctxOf (raisedF h f g) (k : Int) < h.length
  by_cases e : f = k
  ·rw [e2 k (by omega), if_pos e]; omega
  ·rcases ec k (by omega) e with q1 | ⟨q1, _⟩
   ·rw [q1]; exact hk2
   ·rw [q1]; omega
 ·rw [raisedF_len] at hk
  exact hall k (hc.ends (by omega) (by omega))
theorem Calm.nil : Calm [] := ⟨fun k hk => by simp at hk, fun k hk => by simp at hk⟩
theorem Calm.same {h h' : List Fault} (hc : Calm h) (hl : h'.length = h.length) (hx : ∀ k, k < h.length → (h'.getD k default).ctx = (h.getD k default).ctx) : Calm h' := by
 have e : ∀ a : Int, 0 ≤ a → a < h.length → ctxOf h' a = ctxOf h a := fun a a0 a1 => hx a.toNat (by omega)
 refine .of_ends (fun k hk => ?_) (fun k hk => ?_)
 ·rw [hl] at hk ⊢; rw [hx k hk]; exact hc.ctx k hk
 ·rw [hl] at hk
  have := hc.ends (k := k) (by omega) (by omega)
  refine Ends.ind (p := fun a => a < h.length → Ends (ctxOf h') a) (fun a q _ => .neg q) (fun a a0 q q1 => .step ?_) this (by omega)
  rw [e a a0 q1]
  exact q (hc.ctx a.toNat (by omega)).2
theorem Calm.add {h : List Fault} (hc : Calm h) {x : Fault} (hx : x.ctx = -1) : Calm (h ++ [x]) := by
 have e1 : ∀ a : Int, 0 ≤ a → a < h.length → ctxOf (h ++ [x]) a = ctxOf h a := fun a a0 a1 => by unfold ctxOf; rw [getD_app (by omega)]
 have e2 : ctxOf (h ++ [x]) h.length = -1 := by unfold ctxOf; simp [List.getD_eq_getElem?_getD, hx]
 refine .of_ends (fun k hk => ?_) (fun k hk => ?_)
 ·rw [List.length_append, List.length_singleton] at hk ⊢
  show -1 ≤ ctxOf (h ++ [x]) (k : Int) ∧ ctxOf (h ++ [x]) (k : Int) < ((h.length + 1 : Nat) : Int)
  rcases Nat.lt_or_ge k h.length with q | q
  ·rw [e1 k (by omega) (by omega)]
   have := hc.ctx k q
   unfold ctxOf
   simp only [Int.toNat_natCast]
   omega
  ·have : k = h.length := by omega
   subst this
   rw [e2]; omega
 ·rw [List.length_append, List.length_singleton] at hk
  rcases Nat.lt_or_ge k h.length with q | q
  ·have := hc.ends (k := k) (by omega) (by omega)
   refine Ends.ind (p := fun a => a < h.length → Ends (ctxOf (h ++ [x])) a) (fun a q _ => .neg q) (fun a a0 q q1 => .step ?_) this (by omega)
   rw [e1 a a0 q1]
   exact q (hc.ctx a.toNat (by omega)).2
  ·have : k = h.length := by omega
   subst this
   exact .step (by rw [e2]; exact .neg (by omega))
end
section
open Go Go.Sim
set_option maxRecDepth 100000

def Links (h : List Fault) : Prop := ∀ k, k < h.length → (h.getD k default).cause < h.length ∧ (h.getD k default).ctx < h.length
end
end
section
set_option maxRecDepth 100000
attribute [local go_sem ↓] aw_skip aw_ret aw_exit aw_region aw_draw aw_seq aw_block aw_loop aw_cond frz_nil frz_cons sq_normal sq_ret sq_exit exB_normal exB_ret exB_same exB_other retQ_ret retQ_normal ret0_ret ret0_normal ao_nil go1 g_move g_assign g_pick g_build g_load g_binOp g_unOp g_convert g_fieldAddr g_field g_indexAddr g_index g_extract g_lookup g_slice g_nilCheck g_len g_makeFunc h_call h_append h_alloc h_box h_buildSlice h_makeSlice h_store gV i_box i_buildSlice i_move i_assign i_build i_load i_binOp i_unOp i_convert i_fieldAddr i_field i_indexAddr i_index i_extract i_lookup i_makeMap i_mapUpdate i_slice i_nilCheck i_makeFunc i_len i_max i_min i_alloc i_makeSlice i_store i_append i_call i_pick boxI boxA buildSliceI buildSliceA makeSliceA makeMapA allocA storeA p_move p_assign p_pick p_build p_load p_binOp p_unOp p_convert p_fieldAddr p_field p_indexAddr p_index p_extract p_lookup p_makeMap p_mapUpdate p_slice p_nilCheck p_makeFunc p_len p_max p_min p_alloc p_box p_buildSlice p_makeSlice p_store p_append p_call x_nil x_go1 x_g0 x_g1 x_g2 x_g3 x_s0 x_s1 x_s2 x_s3 u_move u_assign u_pick u_build u_load u_binOp u_unOp u_convert u_fieldAddr u_field u_indexAddr u_index u_extract u_lookup u_slice u_nilCheck u_makeFunc u_len u_buildSlice
attribute [local go_sem] frzV_ptr frzV_sl frzK_some set_none set_other AHeap.set_self set_del set_set cnd_t cnd_f cnd_b retA_one retA_two retA_three retA_four retA_nil gIf_b mrgV_b mrgV_wh mrgV_U gIf_U gIf_wh mrgB_f mrgB_some mrgB_if wh_true wh_false keepA_some keepA_if gD_zero gD_succ gT_some bxA_t bxA_f callA_fn ev_tmp ev_const ev_global ev_func oc_bool oc_int oc_string oc_nil oc_nilptr oc_nilfunc cl_bool cl_int cl_string cl_nil updO_some updO_none upd_same upd_other init_at pickA_b pickA_wh selA_t selA_f selA_and selA_or selA_orn selA_orm selA_bb selA_ii beqt b_add b_sub b_mul b_and b_or b_xor b_eql b_neq b_lss b_leq b_gtr b_geq b_quo b_rem b_shr b_seql b_sneq b_sadd b_beql b_bneq b_aeql b_aneq u_not u_neg isConstOp eqA eqCellV List.getD_cons_zero List.getD_cons_succ List.map_cons List.map_nil List.nil_append List.cons_append List.append_nil if_true if_false Option.map_some Option.map_none ne_eq not_false_eq_true oneA ldv ld1v ld1s wr1s ldRow stRow row_lit row_agg row_vsl row_sl row_ptr row_fn one_I one_B one_S one_vsl one_sl one_ptr one_fn extractA okA rI rS rU rClass rFault rExit rStart rLine Int.toNat_natCast List.length_cons List.length_nil List.length_map List.all_cons List.all_nil Bool.and_true Nat.zero_add List.getElem?_cons_zero List.getElem?_cons_succ List.take_succ_cons List.take_zero List.drop_succ_cons List.drop_zero and_self true_and and_true implies_true decide_eq_true_eq decide_eq_false_iff_not Bool.or_eq_true Bool.or_eq_false_iff Bool.and_eq_true Bool.not_eq_true' Bool.not_eq_false' beq_false decide_true decide_false Int.ofNat_lt Int.ofNat_le Int.natCast_nonneg Bool.or_true Bool.or_false Bool.true_or Bool.false_or beq_self_eq_true List.drop_one Bool.not_true Bool.not_false Bool.not_not Bool.false_eq_true Bool.true_eq_false false_implies true_implies Bool.true_and Bool.false_and Bool.and_false not_true_eq_false Int.natCast_eq_zero Int.natCast_pos Int.natCast_zero false_and and_false or_false false_or or_true true_or Bool.or_self none_le_iff List.replicate_zero Int.toNat_zero List.replicate_succ buildRows List.set_cons_zero List.set_cons_succ List.set_nil List.mapM_nil maxLen_eq Nat.zero_le Nat.mul_one Nat.one_mul bldA fillA spliceA List.take_nil List.drop_nil List.getElem?_nil ld1o wr1o bldSliceA le_same ti1 ti2 tk2 ti3 te3 ts3 tk3 tz3 ti4 tb4 ti5 tk5 tz5 ti9 te9 ts9 tk9 tz9 ti20 ti22 te22 tz22 ti23 te23 ti25 tp25 tf25_0 ti26 te26 ti29 te29 ti30 te30 ti32 tp32 tf32_0 ti34 tp34 tf34_0 tf34_1 tf34_2 tf34_3 ti41 tq41 tp41 tf41_0 tf41_1 tf41_2 tf41_3 ti44 tq44 tp44 tf44_0 tf44_1 tf44_2 ti45 te45 ti47 tq47 tp47 tf47_0 tf47_1 tf47_2 ti82 ti84 ti88 tq88 tp88 tf88_0 tf88_1 ti103 tq103 tp103 tf103_0 tf103_1 tf103_2 tf103_3 tf103_4 ti106 ti109 ti124 ti127 tp127 tf127_0 tf127_1 ti129 tp129 tf129_0 tf129_1 tf129_2 tf129_3 tf129_4 ti136 ti138 tp138 tf138_0 tf138_1 tf138_2 tf138_3 ti140 tq140 tp140 tf140_0 tf140_1 ti144 tq144 tp144 tf144_0 tf144_1 ti149 te149 ti151 te151 ti164 ti165 ti167 ti177 te177 ti186 ti202 ti205 tk205 tz205 ti209 tk209 ti217 tk217 tz217 ti219 tk219 tz219 ti220 tk220 ti224 ti226 fp13_0 fv13_0 fp13_1 fv13_1 fp24_0 fv24_0 fp25_0 fv25_0 fp31_0 fv31_0 fp32_0 fv32_0 fp33_0 fv33_0 fp33_1 fv33_1 fp33_2 fv33_2 fp33_3 fv33_3 fp34_0 fv34_0 fp34_1 fv34_1 fp34_2 fv34_2 fp34_3 fv34_3 fp40_0 fv40_0 fp40_1 fv40_1 fp40_2 fv40_2 fp40_3 fv40_3 fp41_0 fv41_0 fp41_1 fv41_1 fp41_2 fv41_2 fp41_3 fv41_3 fp43_0 fv43_0 fp43_1 fv43_1 fp43_2 fv43_2 fp44_0 fv44_0 fp44_1 fv44_1 fp44_2 fv44_2 fp46_0 fv46_0 fp46_1 fv46_1 fp46_2 fv46_2 fp47_0 fv47_0 fp47_1 fv47_1 fp47_2 fv47_2 fp57_0 fv57_0 fp58_0 fv58_0 fp72_0 fv72_0 fp72_1 fv72_1 fp72_2 fv72_2 fp87_0 fv87_0 fp87_1 fv87_1 fp88_0 fv88_0 fp88_1 fv88_1 fp102_0 fv102_0 fp102_1 fv102_1 fp102_2 fv102_2 fp102_3 fv102_3 fp102_4 fv102_4 fp103_0 fv103_0 fp103_1 fv103_1 fp103_2 fv103_2 fp103_3 fv103_3 fp103_4 fv103_4 fp113_0 fv113_0 fp113_1 fv113_1 fp113_2 fv113_2 fp113_3 fv113_3 fp120_0 fv120_0 fp120_1 fv120_1 fp120_2 fv120_2 fp126_0 fv126_0 fp126_1 fv126_1 fp127_0 fv127_0 fp127_1 fv127_1 fp128_0 fv128_0 fp128_1 fv128_1 fp128_2 fv128_2 fp128_3 fv128_3 fp128_4 fv128_4 fp129_0 fv129_0 fp129_1 fv129_1 fp129_2 fv129_2 fp129_3 fv129_3 fp129_4 fv129_4 fp137_0 fv137_0 fp137_1 fv137_1 fp137_2 fv137_2 fp137_3 fv137_3 fp138_0 fv138_0 fp138_1 fv138_1 fp138_2 fv138_2 fp138_3 fv138_3 fp139_0 fv139_0 fp139_1 fv139_1 fp140_0 fv140_0 fp140_1 fv140_1 fp143_0 fv143_0 fp143_1 fv143_1 fp144_0 fv144_0 fp144_1 fv144_1 fp158_0 fv158_0 fp158_1 fv158_1 fp158_2 fv158_2 fp159_0 fv159_0 fp159_1 fv159_1 fp159_2 fv159_2 fp169_0 fv169_0 fp169_1 fv169_1 lv22 ll22 is22 ix22 sh22 so22 sb22 sm22 sp22 lv23 ll23 is23 ix23 sh23 so23 sb23 sm23 sp23 lv26 ll26 is26 ix26 sh26 so26 sb26 sm26 sp26 lv29 ll29 is29 ix29 sh29 so29 sb29 sm29 sp29 lv30 ll30 is30 ix30 sh30 so30 sb30 sm30 sp30 lv45 ll45 is45 ix45 sh45 so45 sb45 sm45 sp45 lv56 ll56 is56 sp56 lv59 ll59 is59 sp59 lv71 ll71 is71 sp71 lv149 ll149 is149 sp149 lv151 ll151 is151 sp151 lv177 ll177 is177 ix177 sh177 so177 sb177 sm177 sp177 xs9 ls9 sx9 sy9 sz9
section
open Go Go.Sim
set_option maxRecDepth 100000
theorem Nums.nil (n : Nat) : Nums n [] where
 mem a ha := absurd ha (List.not_mem_nil)
 free := by have := freeN_nil n; simpa using this
end
section
open Go Go.Sim
set_option maxRecDepth 100000

def insR : List Int → Int → List Int
 | [], v => [v]
 | b :: out, v => if b < v then b :: insR out v else if b = v then b :: out else v :: b :: out
theorem insF_eq : ∀ (out : List Int) (v : Int), insF out v = insR out v
 | [], v => by simp [insF, insR, insK]
 | b :: out, v => by
  have ih := insF_eq out v
  unfold insR
  by_cases c : b < v
  ·rw [if_pos c, ← ih]
   have hk : insK (b :: out) v = insK out v + 1 := by simp [insK, List.takeWhile_cons, c]
   unfold insF
   rw [hk]
   simp only [List.length_cons,List.getD_cons_succ,List.take_succ_cons,List.drop_succ_cons,Nat.add_right_cancel_iff]
   split <;> simp
  ·rw [if_neg c]
   have hk : insK (b :: out) v = 0 := by simp [insK, List.takeWhile_cons, c]
   unfold insF
   rw [hk]
   by_cases e : b = v
   ·rw [if_pos e, if_neg (by simp [e])]
   ·rw [if_neg e, if_pos (by right; simpa using e)]
    simp
theorem insR_mem : ∀ {out : List Int} {v a : Int}, a ∈ insR out v ↔ a = v ∨ a ∈ out
 | [], v, a => by simp [insR]
 | b :: out, v, a => by
  unfold insR
  split
  ·rw [List.mem_cons, insR_mem, List.mem_cons]
   constructor
   ·rintro (q | q | q) <;> simp [q]
   ·rintro (q | q | q) <;> simp [q]
  ·split
   ·rename_i e; subst e; simp
   ·simp
theorem insR_asc : ∀ {out : List Int} {v : Int}, out.Pairwise (· < ·) → (insR out v).Pairwise (· < ·)
 | [], v, _ => by simp [insR]
 | b :: out, v, h => by
  obtain ⟨h1, h2⟩ := List.pairwise_cons.1 h
  unfold insR
  split
  ·rename_i c
   refine .cons (fun a ha => ?_) (insR_asc h2)
   rcases insR_mem.1 ha with q | q
   ·omega
   ·exact h1 a q
  ·split
   ·exact h
   ·rename_i c e
    refine .cons (fun a ha => ?_) h
    rcases List.mem_cons.1 ha with q | q
    ·omega
    ·have := h1 a q; omega
theorem fold_asc : ∀ (l out : List Int), out.Pairwise (· < ·) → (l.foldl insF out).Pairwise (· < ·) ∧ ∀ a, a ∈ l.foldl insF out ↔ a ∈ out ∨ a ∈ l
 | [], out, h => ⟨h, fun a => by simp⟩
 | v :: l, out, h => by
  rw [List.foldl_cons, insF_eq]
  obtain ⟨h1, h2⟩ := fold_asc l (insR out v) (insR_asc h)
  refine ⟨h1, fun a => ?_⟩
  rw [h2, insR_mem, List.mem_cons]
  constructor
  ·rintro ((q | q) | q) <;> simp [q]
  ·rintro (q | q | q) <;> simp [q]
theorem sortedF_asc (l : List Int) : (sortedF l).Pairwise (· < ·) := (fold_asc l [] .nil).1
theorem sortedF_iff {l : List Int} {a : Int} : a ∈ sortedF l ↔ a ∈ l := by
 have := (fold_asc l [] .nil).2 a
 simpa [sortedF] using this
theorem sort_ext {l m : List Int} (hl : l.Nodup) (h : ∀ a, a ∈ l ↔ a ∈ m) : sortI l = sortedF m := by
 have s1 : (sortI l).Pairwise (fun a b => a ≤ b) := by
  have := List.pairwise_mergeSort (le := fun x y : Int => decide (x ≤ y)) (fun a b c h1 h2 => by simp at *; omega) (fun a b => by simp; omega) l
  exact this.imp (fun h => by simpa using h)
 have a2 := sortedF_asc m
 have s2 : (sortedF m).Pairwise (fun a b => a ≤ b) := a2.imp (fun h => by omega)
 have n2 : (sortedF m).Nodup := a2.imp (fun h => by omega)
 have n1 : (sortI l).Nodup := (List.mergeSort_perm l _).nodup_iff.2 hl
 have pm : (sortI l).Perm (sortedF m) := (List.perm_ext_iff_of_nodup n1 n2).2 fun a => by rw [sortI_mem, sortedF_iff, h]
 exact pm.eq_of_pairwise (fun a b _ _ h1 h2 => by omega) s1 s2
inductive Rch (h : List Fault) (f : Int) : Int → Prop where
 | refl : Rch h f f
 | cause {a : Int} : Rch h f a → 0 ≤ causeOf h a → Rch h f (causeOf h a)
 | ctx {a : Int} : Rch h f a → 0 ≤ ctxOf h a → Rch h f (ctxOf h a)
theorem addF_mem {out : List Int} {g a : Int} : a ∈ addF out g ↔ a ∈ out ∨ (a = g ∧ 0 ≤ g) := by
 unfold addF
 by_cases c : 0 ≤ g ∧ (out.any fun x => decide (g = x)) = false
 ·rw [if_pos c, List.mem_append, List.mem_singleton]
  constructor
  ·rintro (q | q)
   ·exact .inl q
   ·exact .inr ⟨q, c.1⟩
  ·rintro (q | q)
   ·exact .inl q
   ·exact .inr q.1
 ·rw [if_neg c]
  refine ⟨.inl, ?_⟩
  rintro (q | ⟨rfl, q⟩)
  ·exact q
  ·have : ¬ (out.any fun x => decide (a = x)) = false := fun e => c ⟨q, e⟩
   simpa using this
theorem addF_nodup {out : List Int} {g : Int} (h : out.Nodup) : (addF out g).Nodup := by
 unfold addF
 split
 ·rename_i c
  rw [List.nodup_append]
  refine ⟨h, by simp, fun a ha b hb => ?_⟩
  simp at hb; subst hb
  rintro rfl
  have := c.2
  rw [List.any_eq_false] at this
  exact this a ha (by simp)
 ·exact h
theorem bfsG_clos {h : List Fault} (hlk : Links h) (f : Int) : ∀ (n i : Nat) (out : List Int), Nums h.length out → out.Nodup → h.length ≤ i + n → (∀ a ∈ out, Rch h f a) →
  (∀ j, j < i → j < out.length → (0 ≤ causeOf h (out.getD j default) → causeOf h (out.getD j default) ∈ out) ∧ (0 ≤ ctxOf h (out.getD j default) → ctxOf h (out.getD j default) ∈ out)) →
  (∀ a ∈ out, a ∈ bfsG h n i out) ∧ (bfsG h n i out).Nodup ∧ (∀ a ∈ bfsG h n i out, Rch h f a) ∧ (∀ a ∈ bfsG h n i out, (0 ≤ causeOf h a → causeOf h a ∈ bfsG h n i out) ∧ (0 ≤ ctxOf h a → ctxOf h a ∈ bfsG h n i out)) := by
 have stop : ∀ (i : Nat) (out : List Int), out.length ≤ i → (∀ j, j < i → j < out.length → (0 ≤ causeOf h (out.getD j default) → causeOf h (out.getD j default) ∈ out) ∧ (0 ≤ ctxOf h (out.getD j default) → ctxOf h (out.getD j default) ∈ out)) →
   ∀ a ∈ out, (0 ≤ causeOf h a → causeOf h a ∈ out) ∧ (0 ≤ ctxOf h a → ctxOf h a ∈ out) := by
  intro i out hi hj a ha
  obtain ⟨j, hj1, rfl⟩ := List.mem_iff_getElem.1 ha
  have := hj j (by omega) hj1
  simpa [List.getD_eq_getElem?_getD, hj1] using this
 intro n
 induction n with
 | zero =>
  intro i out hn hd hl hr hj
  have := hn.free
  exact ⟨fun a ha => ha, hd, hr, stop i out (by omega) hj⟩
 | succ n ih =>
  intro i out hn hd hl hr hj
  simp only [bfsG]
  by_cases c : i < out.length
  ·rw [if_pos c]
   have hm : out.getD i default ∈ out := by rw [List.getD_eq_getElem?_getD, List.getElem?_eq_getElem c]; exact List.getElem_mem c
   have hmm := hn.mem _ hm
   have hk := hlk (out.getD i default).toNat (by omega)
   have hri := hr _ hm
   generalize hg : out.getD i default = v at hm hmm hk hri
   have hN := (hn.add (g := causeOf h v) hk.1).add (g := ctxOf h v) hk.2
   have keep : ∀ a ∈ out, a ∈ addF (addF out (causeOf h v)) (ctxOf h v) := fun a ha => addF_mem.2 (.inl (addF_mem.2 (.inl ha)))
   have pre : ∀ (o : List Int) (g : Int) (j : Nat), j < o.length → (addF o g).getD j default = o.getD j default := by
    intro o g j hjo
    unfold addF
    split
    ·rw [getD_app hjo]
    ·rfl
   have l1 := addF_len out (causeOf h v)
   obtain ⟨b1, b2, b3, b4⟩ := ih (i + 1) (addF (addF out (causeOf h v)) (ctxOf h v)) hN (addF_nodup (addF_nodup hd)) (by omega) (fun a ha => by
    rcases addF_mem.1 ha with q | ⟨e, q⟩
    ·rcases addF_mem.1 q with q1 | ⟨e1, q1⟩
     ·exact hr a q1
     ·rw [e1]; exact .cause hri q1
    ·rw [e]; exact .ctx hri q) (fun j hj1 hj2 => by
    have hjo : j < out.length := by omega
    rw [pre _ _ j (by omega), pre _ _ j hjo]
    by_cases e : j = i
    ·subst e
     rw [hg]
     exact ⟨fun q => addF_mem.2 (.inl (addF_mem.2 (.inr ⟨rfl, q⟩))), fun q => addF_mem.2 (.inr ⟨rfl, q⟩)⟩
    ·have := hj j (by omega) hjo
     exact ⟨fun q => keep _ (this.1 q), fun q => keep _ (this.2 q)⟩)
   exact ⟨fun a ha => b1 a (keep a ha), b2, b3, b4⟩
  ·rw [if_neg c]
   exact ⟨fun a ha => ha, hd, hr, stop i out (by omega) hj⟩
theorem bfsF_iff {h : List Fault} (hlk : Links h) {f : Int} (h0 : 0 ≤ f) (hf : f < h.length) : (bfsF h f).Nodup ∧ ∀ a, a ∈ bfsF h f ↔ Rch h f a := by
 obtain ⟨b1, b2, b3, b4⟩ := bfsG_clos hlk f (h.length + 1) 0 [f] (Nums.one h0 hf) (by simp) (by omega) (fun a ha => by simp at ha; subst ha; exact .refl) (fun j hj => by omega)
 refine ⟨b2, fun a => ⟨b3 a, fun r => ?_⟩⟩
 induction r with
 | refl => exact b1 f (by simp)
 | cause _ q ih => exact (b4 _ ih).1 q
 | ctx _ q ih => exact (b4 _ ih).2 q
end
section
open Go Go.Sim
set_option maxRecDepth 100000

theorem validH_all {t : List Class} {h : List Fault} (hv : validH t h = true) : (List.range h.length).all (faultOk t h) = true ∧ (List.range h.length).all (lastOk h) = true ∧ validT t = true ∧ h.length ≤ 24 := by
 simpa only [validH,Bool.and_eq_true,decide_eq_true_eq] using hv
theorem validH_cls {t : List Class} {h : List Fault} (hv : validH t h = true) : ∀ k, k < h.length → 0 ≤ (h.getD k default).cls ∧ (h.getD k default).cls < t.length ∧ 0 ≤ (h.getD k default).code ∧ (h.getD k default).code < 100 := fun k hk => by
 have := (List.all_eq_true.1 (validH_all hv).1) k (by simp [hk])
 simp only [faultOk,hasF,inR,Bool.and_eq_true,decide_eq_true_eq] at this
 omega
theorem inR_len {f : Int} {n : Nat} : inR f 0 (n - 1) = true ↔ 0 ≤ f ∧ f < n := by
 simp only [inR,Bool.and_eq_true,decide_eq_true_eq]; omega
end
section
open Go Go.Sim
set_option maxRecDepth 100000

def posF (S : List Int) (a : Int) : Int := idxF (fun x => decide (a = x)) S
theorem posF_mem {S : List Int} {a : Int} (h : a ∈ S) : 0 ≤ posF S a ∧ posF S a < S.length ∧ S.getD (posF S a).toNat default = a := by
 unfold posF
 induction S with
 | nil => cases h
 | cons b S ih =>
  simp only [idxF]
  by_cases e : a = b
  ·rw [if_pos (by simpa using e)]
   refine ⟨by omega, by simp only [List.length_cons]; omega,?_⟩
   show (b :: S).getD 0 default = a
   rw [List.getD_cons_zero, e]
  ·have hm : a ∈ S := by
    rcases List.mem_cons.1 h with q | q
    ·exact absurd q e
    ·exact q
   obtain ⟨i1, i2, i3⟩ := ih hm
   rw [if_neg (by simpa using e), if_neg (by omega)]
   refine ⟨by omega, by simp only [List.length_cons]; omega,?_⟩
   have : (idxF (fun x => decide (a = x)) S + 1).toNat = (idxF (fun x => decide (a = x)) S).toNat + 1 := by omega
   rw [this, List.getD_cons_succ, i3]
theorem posF_none {S : List Int} {a : Int} (h : a ∉ S) : posF S a = -1 := by
 unfold posF
 rw [idxF_neg, List.any_eq_false]
 intro x hx
 have : ¬ a = x := by rintro rfl; exact h hx
 simpa using this
theorem posF_inj {S : List Int} {a b : Int} (ha : a ∈ S) (hb : b ∈ S) (h : posF S a = posF S b) : a = b := by
 have h1 := (posF_mem ha).2.2
 have h2 := (posF_mem hb).2.2
 rw [h] at h1
 rw [← h1, h2]
theorem posF_at {S : List Int} (hd : S.Nodup) {k : Nat} (hk : k < S.length) : posF S (S.getD k default) = k := by
 have hm : S.getD k default ∈ S := by rw [List.getD_eq_getElem?_getD, List.getElem?_eq_getElem hk]; exact List.getElem_mem hk
 obtain ⟨h1, h2, h3⟩ := posF_mem hm
 obtain ⟨j, hj⟩ : ∃ j : Nat, posF S (S.getD k default) = j := ⟨(posF S (S.getD k default)).toNat, by omega⟩
 rw [hj] at h1 h2 h3 ⊢
 have hj2 : j < S.length := by omega
 rw [Int.toNat_natCast, List.getD_eq_getElem?_getD, List.getD_eq_getElem?_getD, List.getElem?_eq_getElem hj2, List.getElem?_eq_getElem hk] at h3
 have h4 : S[j] = S[k] := by simpa using h3
 rcases Nat.lt_trichotomy j k with q | q | q
 ·exact absurd h4 ((List.pairwise_iff_getElem.1 hd) j k hj2 hk q)
 ·omega
 ·exact absurd h4.symm ((List.pairwise_iff_getElem.1 hd) k j hk hj2 q)
theorem isoL_len (h : List Fault) (S : List Int) : (isoL h S).length = S.length := by simp [isoL]
theorem isoL_at {h : List Fault} {S : List Int} {k : Nat} (hk : k < S.length) : (isoL h S).getD k default = isoAt h S (S.getD k default) := by
 simp [isoL, List.getD_eq_getElem?_getD, hk]
theorem iso_cause {h : List Fault} {S : List Int} {a : Int} (ha : a ∈ S) : causeOf (isoL h S) (posF S a) = posF S (causeOf h a) := by
 obtain ⟨h1, h2, h3⟩ := posF_mem ha
 unfold causeOf
 rw [isoL_at (by omega), h3]
 rfl
theorem iso_ctx {h : List Fault} {S : List Int} {a : Int} (ha : a ∈ S) : ctxOf (isoL h S) (posF S a) = posF S (ctxOf h a) := by
 obtain ⟨h1, h2, h3⟩ := posF_mem ha
 unfold ctxOf
 rw [isoL_at (by omega), h3]
 rfl
theorem walk_iso {S : List Int} {n : Nat} (hS : ∀ a ∈ S, 0 ≤ a ∧ a < n) {nx nx' : Int → Int} (hnx : ∀ a ∈ S, nx a ∈ S ∨ nx a < 0) (hiso : ∀ a ∈ S, nx' (posF S a) = posF S (nx a)) :
  ∀ (fuel fuel' : Nat) (out : List Int) (f : Int), (f ∈ S ∨ f < 0) → (∀ a ∈ out, a ∈ S) → freeN n out < fuel → freeN S.length (out.map (posF S)) < fuel' → walkG nx' fuel' (out.map (posF S)) (posF S f) = (walkG nx fuel out f).map (posF S)
 | 0, fuel', out, f, _, _, h1, _ => by omega
 | fuel + 1, 0, out, f, _, _, _, h2 => by omega
 | fuel + 1, fuel' + 1, out, f, hf, ho, h1, h2 => by
  simp only [walkG]
  rcases hf with hf | hf
  ·have hp := posF_mem hf
   have hany : ((out.map (posF S)).any fun x => decide (posF S f = x)) = (out.any fun x => decide (f = x)) := by
    rw [List.any_map, Bool.eq_iff_iff, List.any_eq_true, List.any_eq_true]
    constructor
    ·rintro ⟨a, ha, q⟩
     exact ⟨a, ha, by simp only [Function.comp,decide_eq_true_eq] at q; simpa using posF_inj hf (ho a ha) q⟩
    ·rintro ⟨a, ha, q⟩
     exact ⟨a, ha, by simp only [decide_eq_true_eq] at q; subst q; simp⟩
   rw [hany]
   cases hb : out.any fun x => decide (f = x)
   ·rw [if_pos ⟨hp.1, rfl⟩, if_pos ⟨(hS f hf).1, rfl⟩, hiso f hf]
    have l1 := freeN_lt (hS f hf).1 (hS f hf).2 hb
    have l2 := freeN_lt (out := out.map (posF S)) hp.1 hp.2.1 (by rw [hany, hb])
    have e : out.map (posF S) ++ [posF S f] = (out ++ [f]).map (posF S) := by simp
    rw [e] at l2 ⊢
    refine walk_iso hS hnx hiso fuel fuel' (out ++ [f]) (nx f) (hnx f hf) (fun a ha => ?_) (by omega) (by omega)
    rcases List.mem_append.1 ha with q | q
    ·exact ho a q
    ·simp at q; subst q; exact hf
   ·rw [if_neg (fun q => by cases q.2), if_neg (fun q => by cases q.2)]
  ·have hn : f ∉ S := fun q => by have := hS f q; omega
   rw [posF_none hn, if_neg (by omega), if_neg (by omega)]
structure Closed (h : List Fault) (S : List Int) : Prop where
 mem : ∀ a ∈ S, 0 ≤ a ∧ a < h.length
 cause : ∀ a ∈ S, causeOf h a ∈ S ∨ causeOf h a < 0
 ctx : ∀ a ∈ S, ctxOf h a ∈ S ∨ ctxOf h a < 0
theorem Closed.pos {h : List Fault} {S : List Int} (hc : Closed h S) {b : Int} (hb : b ∈ S ∨ b < 0) : (0 ≤ posF S b ↔ 0 ≤ b) ∧ (b < 0 → posF S b = -1) := by
 rcases hb with q | q
 ·have h1 := (posF_mem q).1
  have h2 := (hc.mem b q).1
  exact ⟨⟨fun _ => h2, fun _ => h1⟩, fun w => by omega⟩
 ·have hn : b ∉ S := fun w => by have := (hc.mem b w).1; omega
  rw [posF_none hn]
  exact ⟨⟨fun w => by omega, fun w => by omega⟩, fun _ => rfl⟩
theorem closed_reach {h : List Fault} (hlk : Links h) {f : Int} (h0 : 0 ≤ f) (hf : f < h.length) : Closed h (sortI (bfsF h f)) ∧ f ∈ sortI (bfsF h f) ∧ (sortI (bfsF h f)).Nodup := by
 obtain ⟨b1, b2⟩ := bfsF_iff hlk h0 hf
 have hn := bfsF_nums hlk h0 hf
 have m : ∀ a, a ∈ sortI (bfsF h f) ↔ Rch h f a := fun a => by rw [sortI_mem, b2]
 refine ⟨⟨fun a ha => hn.mem a (sortI_mem.1 ha), fun a ha => ?_, fun a ha => ?_⟩, (m f).2 .refl, (List.mergeSort_perm _ _).nodup_iff.2 b1⟩
 ·by_cases c : causeOf h a < 0
  ·exact .inr c
  ·exact .inl ((m _).2 (.cause ((m a).1 ha) (by omega)))
 ·by_cases c : ctxOf h a < 0
  ·exact .inr c
  ·exact .inl ((m _).2 (.ctx ((m a).1 ha) (by omega)))
theorem Closed.links {h : List Fault} {S : List Int} (hd : S.Nodup) : Links (isoL h S) := by
 intro k hk
 rw [isoL_len] at hk ⊢
 rw [isoL_at hk]
 exact ⟨idxF_lt _ _, idxF_lt _ _⟩
theorem Closed.rch {h : List Fault} {S : List Int} (hc : Closed h S) {f a : Int} (hf : f ∈ S) (r : Rch h f a) : a ∈ S ∧ Rch (isoL h S) (posF S f) (posF S a) := by
 induction r with
 | refl => exact ⟨hf, .refl⟩
 | @cause a r q ih =>
  obtain ⟨i1, i2⟩ := ih
  have hm := (hc.cause a i1).resolve_right (by omega)
  refine ⟨hm, ?_⟩
  rw [← iso_cause i1]
  exact .cause i2 (by rw [iso_cause i1]; exact (posF_mem hm).1)
 | @ctx a r q ih =>
  obtain ⟨i1, i2⟩ := ih
  have hm := (hc.ctx a i1).resolve_right (by omega)
  refine ⟨hm, ?_⟩
  rw [← iso_ctx i1]
  exact .ctx i2 (by rw [iso_ctx i1]; exact (posF_mem hm).1)
theorem reach_all {h : List Fault} (hlk : Links h) {f : Int} (h0 : 0 ≤ f) (hf : f < h.length) :
  sortI (bfsF (isoL h (sortI (bfsF h f))) (posF (sortI (bfsF h f)) f)) = (List.range (sortI (bfsF h f)).length).map (fun (k : Nat) => (k : Int)) := by
 obtain ⟨hc, hm, hd⟩ := closed_reach hlk h0 hf
 have hall : ∀ a ∈ sortI (bfsF h f), Rch h f a := fun a ha => ((bfsF_iff hlk h0 hf).2 a).1 (sortI_mem.1 ha)
 generalize hS : sortI (bfsF h f) = S at hc hm hd hall ⊢
 obtain ⟨p1, p2, p3⟩ := posF_mem hm
 have hl2 : Links (isoL h S) := Closed.links hd
 obtain ⟨b1, b2⟩ := bfsF_iff hl2 p1 (by rw [isoL_len]; exact p2)
 have hn := bfsF_nums hl2 p1 (by rw [isoL_len]; exact p2)
 have s2 : ((List.range S.length).map (fun (k : Nat) => (k : Int))).Pairwise (fun a b => a < b) := by
  rw [List.pairwise_map]
  exact List.pairwise_lt_range.imp (fun q => by omega)
 have hsf : sortedF ((List.range S.length).map (fun (k : Nat) => (k : Int))) = (List.range S.length).map (fun (k : Nat) => (k : Int)) := by
  have a2 := sortedF_asc ((List.range S.length).map (fun (k : Nat) => (k : Int)))
  have pm : (sortedF ((List.range S.length).map (fun (k : Nat) => (k : Int)))).Perm ((List.range S.length).map (fun (k : Nat) => (k : Int))) :=
   (List.perm_ext_iff_of_nodup (a2.imp (fun q => by omega)) (s2.imp (fun q => by omega))).2 fun a => sortedF_iff
  exact pm.eq_of_pairwise (fun a b _ _ q1 q2 => by omega) (a2.imp (fun q => Int.le_of_lt q)) (s2.imp (fun q => Int.le_of_lt q))
 rw [← hsf]
 refine sort_ext b1 fun a => ?_
 rw [List.mem_map]
 constructor
 ·intro ha
  have := hn.mem a ha
  rw [isoL_len] at this
  exact ⟨a.toNat, by simp; omega, by omega⟩
 ·rintro ⟨k, hk, rfl⟩
  rw [List.mem_range] at hk
  rw [b2, ← posF_at hd hk]
  have hkm : S.getD k default ∈ S := by rw [List.getD_eq_getElem?_getD, List.getElem?_eq_getElem hk]; exact List.getElem_mem hk
  exact (hc.rch hm (hall _ hkm)).2
def natsF (n : Nat) : List Int := (List.range n).map (fun (k : Nat) => (k : Int))
theorem Closed.last {h : List Fault} {S : List Int} (hc : Closed h S) (hcm : Calm h) {a : Int} (ha : a ∈ S) : ctxOf (isoL h S) (lastI (chainF (isoL h S) (posF S a))) = -1 := by
 have hw : chainF (isoL h S) (posF S a) = (chainF h a).map (posF S) := by
  unfold chainF
  rw [isoL_len]
  exact walk_iso (S := S) (n := h.length) hc.mem (nx := ctxOf h) (nx' := ctxOf (isoL h S)) hc.ctx (fun a ha => iso_ctx ha) (h.length + 1) (S.length + 1) [] a (.inl ha) (fun a ha => by cases ha) (by have := freeN_nil h.length; omega) (by have := freeN_nil S.length; simp only [List.map_nil]; omega)
 have h0 := hc.mem a ha
 have hne := List.length_pos_iff.2 (chainF_ne (h := h) h0.1)
 have hl : (chainF h a).length - 1 < (chainF h a).length := by omega
 have hmem : ∀ b ∈ chainF h a, b ∈ S := by
  intro b hb
  have key := walkG_mem (nx := ctxOf h) (p := fun a => a ∈ S ∨ a < 0) (fun a a0 ha => hc.ctx a (ha.resolve_right (by omega))) (h.length + 1) [] a (.inl ha) b hb
  rcases key with q | ⟨q0, q⟩
  ·cases q
  ·exact q.resolve_right (by omega)
 have hlm : lastI (chainF h a) ∈ S := hmem _ (by unfold lastI; rw [List.getD_eq_getElem?_getD, List.getElem?_eq_getElem hl]; exact List.getElem_mem hl)
 have e : lastI ((chainF h a).map (posF S)) = posF S (lastI (chainF h a)) := by
  unfold lastI
  rw [List.length_map, List.getD_eq_getElem?_getD, List.getD_eq_getElem?_getD, List.getElem?_map, List.getElem?_eq_getElem hl]; rfl
 have hlast := hcm.last a.toNat (by omega)
 rw [lastOk, decide_eq_true_eq, Int.toNat_of_nonneg h0.1] at hlast
 rw [hw, e, iso_ctx hlm, hlast]
 exact (hc.pos (.inr (by omega))).2 (by omega)
theorem valid_isoG {t : List Class} {h : List Fault} {S : List Int} (v1 : (List.range h.length).all (faultOk t h) = true) (hcm : Calm h) (v3 : validT t = true) (hc : Closed h S) (hd : S.Nodup) (hlen : S.length ≤ 24) : validH t (isoL h S) = true := by
 have link : ∀ (k : Nat), k < S.length → ∀ b : Int, (b ∈ S ∨ b < 0) → b ≠ S.getD k default → linkF S.length k (posF S b) = true := by
  intro k hk b hb hne
  have hkm : S.getD k default ∈ S := by rw [List.getD_eq_getElem?_getD, List.getElem?_eq_getElem hk]; exact List.getElem_mem hk
  rcases hb with q | q
  ·obtain ⟨p1, p2, p3⟩ := posF_mem q
   have hne2 : ¬ posF S b = k := fun e => hne (posF_inj q hkm (by rw [e, posF_at hd hk]))
   simp only [linkF,inR,Bool.or_eq_true,Bool.and_eq_true,decide_eq_true_eq,Bool.not_eq_true',decide_eq_false_iff_not]
   omega
  ·rw [(hc.pos (.inr q)).2 q]; simp [linkF]
 simp only [validH,Bool.and_eq_true,decide_eq_true_eq,List.all_eq_true,List.mem_range,isoL_len]
 refine ⟨fun k hk => ?_, fun k hk => ?_, v3, hlen⟩
 ·have hkm : S.getD k default ∈ S := by rw [List.getD_eq_getElem?_getD, List.getElem?_eq_getElem hk]; exact List.getElem_mem hk
  have hin := hc.mem _ hkm
  have hf := (List.all_eq_true.1 v1) (S.getD k default).toNat (List.mem_range.2 (by omega))
  simp only [faultOk,Bool.and_eq_true] at hf ⊢
  rw [isoL_at hk, isoL_len]
  have n1 : causeOf h (S.getD k default) ≠ S.getD k default := by
   have := hf.1.2
   unfold causeOf
   simp only [linkF,inR,Bool.or_eq_true,Bool.and_eq_true,decide_eq_true_eq,Bool.not_eq_true',decide_eq_false_iff_not] at this
   omega
  have n2 : ctxOf h (S.getD k default) ≠ S.getD k default := by
   have := hf.2
   unfold ctxOf
   simp only [linkF,inR,Bool.or_eq_true,Bool.and_eq_true,decide_eq_true_eq,Bool.not_eq_true',decide_eq_false_iff_not] at this
   omega
  exact ⟨⟨hf.1.1, link k hk _ (hc.cause _ hkm) n1⟩, link k hk _ (hc.ctx _ hkm) n2⟩
 ·have hkm : S.getD k default ∈ S := by rw [List.getD_eq_getElem?_getD, List.getElem?_eq_getElem hk]; exact List.getElem_mem hk
  have := hc.last hcm hkm
  rw [posF_at hd hk] at this
  rw [lastOk, decide_eq_true_eq]
  exact this
end
section
open Go Go.Sim
set_option maxRecDepth 100000

theorem calm_heap {fs : List Fault} (ho : heapOk fs) : Calm fs := by
 refine .of_ends (fun k hk => by have := ho k hk; omega) (fun k hk => ?_)
 have key : ∀ n : Nat, ∀ k : Nat, k < n → k < fs.length → Ends (ctxOf fs) k := by
  intro n
  induction n with
  | zero => intro k hk; omega
  | succ n ih =>
   intro k hk hl
   obtain ⟨o1, o2, o3⟩ := ho k hl
   refine .step ?_
   have e : ctxOf fs k = (fs.getD k default).ctx := by unfold ctxOf; rw [Int.toNat_natCast]
   rw [e]
   by_cases c : (fs.getD k default).ctx < 0
   ·exact .neg c
   ·obtain ⟨m, hm⟩ : ∃ m : Nat, (fs.getD k default).ctx = m := ⟨(fs.getD k default).ctx.toNat, by omega⟩
    rw [hm]
    exact ih m (by omega) (by omega)
 exact key (k + 1) k (by omega) hk
structure RunOut (t : List Class) (r : En × RS) (R : Res) : Prop where
 valid : validH t R.heap = true
 low : 0 ≤ R.val
 high : R.val < R.heap.length
 reach : sortI (bfsF R.heap R.val) = natsF R.heap.length
 cls : (R.heap.getD R.val.toNat default).cls = clsOf r.2 r.1.val
 code : (R.heap.getD R.val.toNat default).code = (r.2.fs.getD r.1.val.toNat default).code
theorem run_out {t : List Class} {r : En × RS} (ht : validT t = true) (hf : FsOk t r.2.fs) (h2 : r.1.ed = 2) (h0 : 0 ≤ r.1.val) (h1 : r.1.val < r.2.fs.length) (hd : dep r.2.fs r.1.val ≤ 24) : RunOut t r (resOf r) := by
 have ho := hf.ho
 have hlk : Links r.2.fs := heapOk_links ho
 obtain ⟨hc, hm, hn⟩ := closed_reach hlk h0 h1
 have hra := reach_all hlk h0 h1
 have hlen : (sortI (bfsF r.2.fs r.1.val)).length ≤ 24 := by
  rw [sort_dch ho h0 h1, List.length_reverse]; exact hd
 rw [res_two h2]
 unfold isoR
 generalize sortI (bfsF r.2.fs r.1.val) = S at hc hm hn hra hlen ⊢
 obtain ⟨p1, p2, p3⟩ := posF_mem hm
 have hat : (isoL r.2.fs S).getD (posF S r.1.val).toNat default = isoAt r.2.fs S r.1.val := by rw [isoL_at (by omega), p3]
 refine ⟨?_, p1, ?_, ?_, ?_, ?_⟩
 ·refine valid_isoG ?_ (calm_heap ho) ht hc hn hlen
  rw [List.all_eq_true]
  intro k hk
  have hk' := List.mem_range.1 hk
  obtain ⟨o1, o2, o3⟩ := ho k hk'
  obtain ⟨c1, c2⟩ := hf.cls k hk'
  simp only [faultOk,Bool.and_eq_true]
  refine ⟨⟨⟨c1, c2⟩, ?_⟩, ?_⟩
  ·rw [o1]; simp [linkF]
  ·simp only [linkF,inR,Bool.or_eq_true,Bool.and_eq_true,decide_eq_true_eq,Bool.not_eq_true',decide_eq_false_iff_not]
   omega
 ·show posF S r.1.val < (isoL r.2.fs S).length
  rw [isoL_len]; exact p2
 ·show sortI (bfsF (isoL r.2.fs S) (posF S r.1.val)) = natsF (isoL r.2.fs S).length
  rw [hra, isoL_len]; rfl
 ·show ((isoL r.2.fs S).getD (posF S r.1.val).toNat default).cls = _
  rw [hat]; rfl
 ·show ((isoL r.2.fs S).getD (posF S r.1.val).toNat default).code = _
  rw [hat]; rfl
theorem run_valid {t : List Class} {p : List Line} (h : ValidP t p) (h2 : (runP t p).1.ed = 2) : RunOut t (runP t p) (resOf (runP t p)) := by
 have hg := runP_goes h
 exact run_out h.1 hg.ok h2 (hg.val h2).1 (hg.val h2).2 (dep_top h h2)
end
section
open Go Go.Sim
set_option maxRecDepth 100000
def kd (p : List Line) (m : Nat) : Int := (p.getD m default).kind
/-! ### What encloses a line -/
/-! ### What is behind jumps -/
/-! ### The line that a line goes on with -/
/-! ### Flags, line by line -/
end
section
open Go Go.Sim
set_option maxRecDepth 100000
set_option maxHeartbeats 4000000

theorem At.sub {p : List Line} {i : Nat} {d : Int} {f : Fo} (h : At p i d f) : (p.take (i + f.size)).drop i = f.flat d := by
 obtain ⟨pre, post, rfl, rfl, _⟩ := h
 have e1 : (pre ++ (f.flat d ++ post)).take (pre.length + f.size) = pre ++ f.flat d := by
  rw [← List.append_assoc, ← flat_len f d, ← List.length_append, List.take_left]
 rw [e1, List.drop_left]
theorem app_lines {H0 H : AHeap} {x : AV} {out m : List Line} {es : List (List AV)} {cl : Bool} {K : AV → AHeap → Prop} {g : Tag (H, K)} (hg : Grow rLine 4 41 H0 H x out) (hb : out.length + m.length ≤ 1000000) (he : es = m.map rLine) (k : ∀ x' H', Grow rLine 4 41 H0 H' x' (out ++ m) → K x' H') : appT Tryz.prog H 26 x (.vsl es cl) K g :=
 grow_append (m := m) te26 ti41 rLine_len (by decide) hg (by show (out.length + m.length) * 32 ≤ _; omega) (by omega) he fun x' H'' hg' => k x' H'' hg'
end
end
section
set_option maxRecDepth 100000
attribute [local go_sem ↓] aw_skip aw_ret aw_exit aw_region aw_draw aw_seq aw_block aw_loop aw_cond frz_nil frz_cons sq_normal sq_ret sq_exit exB_normal exB_ret exB_same exB_other retQ_ret retQ_normal ret0_ret ret0_normal ao_nil go1 g_move g_assign g_pick g_build g_load g_binOp g_unOp g_convert g_fieldAddr g_field g_indexAddr g_index g_extract g_lookup g_slice g_nilCheck g_len g_makeFunc h_call h_append h_alloc h_box h_buildSlice h_makeSlice h_store gV i_box i_buildSlice i_move i_assign i_build i_load i_binOp i_unOp i_convert i_fieldAddr i_field i_indexAddr i_index i_extract i_lookup i_makeMap i_mapUpdate i_slice i_nilCheck i_makeFunc i_len i_max i_min i_alloc i_makeSlice i_store i_append i_call i_pick boxI boxA buildSliceI buildSliceA makeSliceA makeMapA allocA storeA p_move p_assign p_pick p_build p_load p_binOp p_unOp p_convert p_fieldAddr p_field p_indexAddr p_index p_extract p_lookup p_makeMap p_mapUpdate p_slice p_nilCheck p_makeFunc p_len p_max p_min p_alloc p_box p_buildSlice p_makeSlice p_store p_append p_call x_nil x_go1 x_g0 x_g1 x_g2 x_g3 x_s0 x_s1 x_s2 x_s3 u_move u_assign u_pick u_build u_load u_binOp u_unOp u_convert u_fieldAddr u_field u_indexAddr u_index u_extract u_lookup u_slice u_nilCheck u_makeFunc u_len u_buildSlice x_s4 x_g4 rq_normal rq_ret rq_exit aw_range
attribute [local go_sem] frzV_sl frzK_some set_none set_other AHeap.set_self set_del set_set cnd_t cnd_f cnd_b retA_one retA_two retA_three retA_four retA_nil gIf_b mrgV_b mrgV_wh mrgV_U gIf_U gIf_wh mrgB_f mrgB_some mrgB_if wh_true wh_false keepA_some keepA_if gD_zero gD_succ gT_some bxA_t bxA_f callA_fn ev_tmp ev_const ev_global ev_func oc_bool oc_int oc_string oc_nil oc_nilptr oc_nilfunc cl_bool cl_int cl_string cl_nil updO_some updO_none upd_same upd_other init_at pickA_b pickA_wh selA_t selA_f selA_and selA_or selA_orn selA_orm selA_bb selA_ii beqt b_add b_sub b_mul b_and b_or b_xor b_eql b_neq b_lss b_leq b_gtr b_geq b_quo b_rem b_shr b_seql b_sneq b_sadd b_beql b_bneq b_aeql b_aneq u_not u_neg isConstOp eqA eqCellV List.getD_cons_zero List.getD_cons_succ List.map_cons List.map_nil List.nil_append List.cons_append List.append_nil if_true if_false Option.map_some Option.map_none ne_eq not_false_eq_true oneA ldv ld1v ld1s wr1s ldRow stRow row_lit row_agg row_vsl row_sl row_ptr row_fn one_I one_B one_S one_vsl one_sl one_ptr one_fn extractA okA rI rS rU rClass rFault rExit rStart rLine Int.toNat_natCast List.length_cons List.length_nil List.length_map List.all_cons List.all_nil Bool.and_true Nat.zero_add List.getElem?_cons_zero List.getElem?_cons_succ List.take_succ_cons List.take_zero List.drop_succ_cons List.drop_zero and_self true_and and_true implies_true decide_eq_true_eq decide_eq_false_iff_not Bool.or_eq_true Bool.or_eq_false_iff Bool.and_eq_true Bool.not_eq_true' Bool.not_eq_false' beq_false decide_true decide_false Int.ofNat_lt Int.ofNat_le Int.natCast_nonneg Bool.or_true Bool.or_false Bool.true_or Bool.false_or beq_self_eq_true List.drop_one Bool.not_true Bool.not_false Bool.not_not Bool.false_eq_true Bool.true_eq_false false_implies true_implies Bool.true_and Bool.false_and Bool.and_false not_true_eq_false Int.natCast_eq_zero Int.natCast_pos Int.natCast_zero false_and and_false or_false false_or or_true true_or Bool.or_self none_le_iff List.replicate_zero Int.toNat_zero List.replicate_succ buildRows List.set_cons_zero List.set_cons_succ List.set_nil List.mapM_nil maxLen_eq Nat.zero_le Nat.mul_one Nat.one_mul bldA fillA spliceA List.take_nil List.drop_nil List.getElem?_nil ld1o wr1o bldSliceA le_same cv_i cvI_t quietT_fn qvd_some ld_o ldO_1 ldO_l wr_o wrO_1 set_2 set_3 set_4 putL_nil putL_cons List.zip_cons_cons List.zip_nil_left List.zip_nil_right List.toList_toArray frzV_set ti1 ti2 tk2 ti3 te3 ts3 tk3 tz3 ti4 tb4 ti5 tk5 tz5 ti9 te9 ts9 tk9 tz9 ti20 ti22 te22 tz22 ti23 te23 ti25 tp25 tf25_0 ti26 te26 ti29 te29 ti30 te30 ti32 tp32 tf32_0 ti34 tp34 tf34_0 tf34_1 tf34_2 tf34_3 ti41 tq41 tp41 tf41_0 tf41_1 tf41_2 tf41_3 ti44 tq44 tp44 tf44_0 tf44_1 tf44_2 ti45 te45 ti47 tq47 tp47 tf47_0 tf47_1 tf47_2 ti82 ti84 ti88 tq88 tp88 tf88_0 tf88_1 ti103 tq103 tp103 tf103_0 tf103_1 tf103_2 tf103_3 tf103_4 ti106 ti109 ti124 ti127 tp127 tf127_0 tf127_1 ti129 tp129 tf129_0 tf129_1 tf129_2 tf129_3 tf129_4 ti136 ti138 tp138 tf138_0 tf138_1 tf138_2 tf138_3 ti140 tq140 tp140 tf140_0 tf140_1 ti144 tq144 tp144 tf144_0 tf144_1 ti149 te149 ti151 te151 ti164 ti165 ti167 ti177 te177 ti186 ti202 ti205 tk205 tz205 ti209 tk209 ti217 tk217 tz217 ti219 tk219 tz219 ti220 tk220 ti224 ti226 fp13_0 fv13_0 fp13_1 fv13_1 fp24_0 fv24_0 fp25_0 fv25_0 fp31_0 fv31_0 fp32_0 fv32_0 fp33_0 fv33_0 fp33_1 fv33_1 fp33_2 fv33_2 fp33_3 fv33_3 fp34_0 fv34_0 fp34_1 fv34_1 fp34_2 fv34_2 fp34_3 fv34_3 fp40_0 fv40_0 fp40_1 fv40_1 fp40_2 fv40_2 fp40_3 fv40_3 fp41_0 fv41_0 fp41_1 fv41_1 fp41_2 fv41_2 fp41_3 fv41_3 fp43_0 fv43_0 fp43_1 fv43_1 fp43_2 fv43_2 fp44_0 fv44_0 fp44_1 fv44_1 fp44_2 fv44_2 fp46_0 fv46_0 fp46_1 fv46_1 fp46_2 fv46_2 fp47_0 fv47_0 fp47_1 fv47_1 fp47_2 fv47_2 fp57_0 fv57_0 fp58_0 fv58_0 fp72_0 fv72_0 fp72_1 fv72_1 fp72_2 fv72_2 fp87_0 fv87_0 fp87_1 fv87_1 fp88_0 fv88_0 fp88_1 fv88_1 fp102_0 fv102_0 fp102_1 fv102_1 fp102_2 fv102_2 fp102_3 fv102_3 fp102_4 fv102_4 fp103_0 fv103_0 fp103_1 fv103_1 fp103_2 fv103_2 fp103_3 fv103_3 fp103_4 fv103_4 fp113_0 fv113_0 fp113_1 fv113_1 fp113_2 fv113_2 fp113_3 fv113_3 fp120_0 fv120_0 fp120_1 fv120_1 fp120_2 fv120_2 fp126_0 fv126_0 fp126_1 fv126_1 fp127_0 fv127_0 fp127_1 fv127_1 fp128_0 fv128_0 fp128_1 fv128_1 fp128_2 fv128_2 fp128_3 fv128_3 fp128_4 fv128_4 fp129_0 fv129_0 fp129_1 fv129_1 fp129_2 fv129_2 fp129_3 fv129_3 fp129_4 fv129_4 fp137_0 fv137_0 fp137_1 fv137_1 fp137_2 fv137_2 fp137_3 fv137_3 fp138_0 fv138_0 fp138_1 fv138_1 fp138_2 fv138_2 fp138_3 fv138_3 fp139_0 fv139_0 fp139_1 fv139_1 fp140_0 fv140_0 fp140_1 fv140_1 fp143_0 fv143_0 fp143_1 fv143_1 fp144_0 fv144_0 fp144_1 fv144_1 fp158_0 fv158_0 fp158_1 fv158_1 fp158_2 fv158_2 fp159_0 fv159_0 fp159_1 fv159_1 fp159_2 fv159_2 fp169_0 fv169_0 fp169_1 fv169_1 lv22 ll22 is22 ix22 sh22 so22 sb22 sm22 sp22 lv23 ll23 is23 ix23 sh23 so23 sb23 sm23 sp23 lv26 ll26 is26 ix26 sh26 so26 sb26 sm26 sp26 lv29 ll29 is29 ix29 sh29 so29 sb29 sm29 sp29 lv30 ll30 is30 ix30 sh30 so30 sb30 sm30 sp30 lv45 ll45 is45 ix45 sh45 so45 sb45 sm45 sp45 lv56 ll56 is56 sp56 lv59 ll59 is59 sp59 lv71 ll71 is71 sp71 lv149 ll149 is149 sp149 lv151 ll151 is151 sp151 lv177 ll177 is177 ix177 sh177 so177 sb177 sm177 sp177 xs9 ls9 sx9 sy9 sz9
section
open Go Go.Sim
set_option maxRecDepth 100000
set_option maxHeartbeats 4000000

theorem c_ClipL (l : List Line) (cl : Bool) (H : AHeap) : ACalls Tryz.prog 108 [aProg l cl] H fun r H' => r = aProg l true ∧ H' = H := by
 refine acalls_len (by kernel_rfl) (List.mem_cons_self ..) fun hl => ?_
 rw [List.length_map] at hl
 refine acalls_of0 Tryz.func108 rfl (by kernel_rfl) rfl rfl (awp_sound (fz := fun _ => []) (im := fun _ => false) mixed _ _ _ _ (by kernel_rfl) ?_)
 simp +contextual -dsimp -implicitDefEqProofs (maxSteps:=5000000) only [go_sem,reduceIte,reduceCtorEq,Nat.reduceEqDiff,Nat.reduceBEq,Nat.reduceAdd,Nat.reduceLeDiff,Nat.reduceMul,Nat.reduceLT,Int.reduceEq,Int.reduceLT,Int.reduceLE,List.take_length]
 exact Nat.le_refl _
noncomputable def madeF (t : List Class) (p : List Line) : List Line := if validB t p = true then p else []
theorem c_programMade (t : List Class) (cl : Bool) (p : List Line) (cl' : Bool) (H : AHeap) (hn : namesOk t) (hp : p.length ≤ 4398046511104) : ACalls Tryz.prog 59 [aTree t cl, aProg p cl'] H fun r H' => (∃ c, r = .tup [aProg (madeF t p) c, B (validB t p)]) ∧ H' = H := by
 refine acalls_of0 Tryz.func59 rfl (by kernel_rfl) rfl rfl (awp_sound (fz := fun _ => []) (im := fun s => s == 2) mixed _ _ _ _ (by kernel_rfl) ?_)
 simp +contextual -dsimp -implicitDefEqProofs (maxSteps:=5000000) only [go_sem,reduceIte,reduceCtorEq,Nat.reduceEqDiff,Nat.reduceBEq,Nat.reduceAdd,Nat.reduceLeDiff,Nat.reduceMul,Nat.reduceLT,Int.reduceEq,Int.reduceLT,Int.reduceLE]
 refine (c_ValidProgram t cl p cl' _ hn hp).det ?_
 unfold madeF
 cases hv : validB t p
 ·simp +contextual -dsimp -implicitDefEqProofs (maxSteps:=5000000) only [go_sem,reduceIte,reduceCtorEq,Nat.reduceEqDiff,Nat.reduceBEq,Nat.reduceAdd,Nat.reduceLeDiff,Nat.reduceMul,Nat.reduceLT,Int.reduceEq,Int.reduceLT,Int.reduceLE]
  exact ⟨true, rfl⟩
 ·simp +contextual -dsimp -implicitDefEqProofs (maxSteps:=5000000) only [go_sem,reduceIte,reduceCtorEq,Nat.reduceEqDiff,Nat.reduceBEq,Nat.reduceAdd,Nat.reduceLeDiff,Nat.reduceMul,Nat.reduceLT,Int.reduceEq,Int.reduceLT,Int.reduceLE]
  refine (c_ClipL p cl' _).det ?_
  simp +contextual -dsimp -implicitDefEqProofs (maxSteps:=5000000) only [go_sem,reduceIte,reduceCtorEq,Nat.reduceEqDiff,Nat.reduceBEq,Nat.reduceAdd,Nat.reduceLeDiff,Nat.reduceMul,Nat.reduceLT,Int.reduceEq,Int.reduceLT,Int.reduceLE]
  exact ⟨true, rfl⟩
end
section
open Go Go.Sim
set_option maxRecDepth 100000
set_option maxHeartbeats 4000000

def Drawn (f : FuncId) (p : Nat) (d : Int) : Prop := ∀ (F : AHeap) (br n : Nat) (K : ABlk) (t : List Class) (cl : Bool) (lp : Bool), RdK n K → F br = none → n + p < 600000000 →
 ACalls Tryz.prog f [.ptr br 2 0 0, aTree t cl, I d, B lp] (F.set br K) fun r H' => ∃ (l : List Line) (G : AHeap) (K' : ABlk), Grow rLine 4 41 F G r l ∧ G br = none ∧ H' = G.set br K' ∧ RdK (n + p) K' ∧ 1 ≤ l.length ∧ l.length ≤ p
def DrawnF (f : FuncId) (p : Nat) (d : Int) : Prop := ∀ (F : AHeap) (br n : Nat) (K : ABlk) (t : List Class) (cl : Bool) (lp : Bool), RdK n K → F br = none → n + p < 600000000 →
 ACalls Tryz.prog f [.ptr br 2 0 0, aTree t cl, I d, B lp] (F.set br K) fun r H' => ∃ (l : List Line) (cl' : Bool) (K' : ABlk), r = .vsl (l.map rLine) cl' ∧ H' = F.set br K' ∧ RdK (n + p) K' ∧ 1 ≤ l.length ∧ l.length ≤ p
theorem Drawn.frz {f : FuncId} {p : Nat} {d : Int} (h : Drawn f p d) : DrawnF f p d := by
 intro F br n K t cl lp hK hF hn
 refine acalls_fz (h F br n K t cl lp hK hF hn) ?_
 rintro x _ ⟨l, G, K', hg, hr, rfl, hK', h1, h2⟩
 have hg' := grow_in (K := K') hg hr
 obtain ⟨cl', hz⟩ := grow_fz hg'
 exact ⟨_, F.set br K', grow_le hg', hz, l, cl', K', rfl, rfl, hK', h1, h2⟩
theorem app_lit {H : AHeap} {y : Line} {l : List Line} {cl : Bool} {d : AV} {K : AV → AHeap → Prop} {g : Tag (H, K)} (hd : d = .vsl [rLine y] true) (hl : 1 ≤ l.length) (hb : l.length ≤ 1000000) (k : ∀ x' H', Grow rLine 4 41 H H' x' (y :: l) → K x' H') : appT Tryz.prog H 26 d (.vsl (l.map rLine) cl) K g := by
 subst hd
 show appendA Tryz.prog H 26 (.vsl [rLine y] true) (.vsl (l.map rLine) cl) K
 have hmax : maxLen = 9223372036854775807 := rfl
 unfold appendA
 simp only [te26,ti41,rowsOf]
 refine ⟨by decide, fun r hr => by simp at hr; obtain ⟨y, _, rfl⟩ := hr; rfl, fun r hr => by simp at hr; subst hr; rfl, by simp; omega, by simp; omega, fun e => ?_, fun e => ⟨trivial, fun b' hb' => ?_⟩⟩
 ·have : l = [] := by simpa using e
  rw [this] at hl; simp at hl
 ·refine k _ _ (.inr ⟨b', false, hb', by simp [Nat.add_comm], by simp⟩)
theorem c_aBlock {d : Int} {p : Nat} (hp : p ≤ 300000) (hS : DrawnF 172 p d) : Drawn 135 (1 + 3 * p) d := by
 intro F br n K t cl lp hK hF hn
 refine acalls_of1 Tryz.func135 rfl (by kernel_rfl) rfl rfl (awp_sound (fz := fun _ => []) (im := fun s => s == 5 || s == 11 || s == 13) mixed _ _ _ _ (by kernel_rfl) ?_)
 simp +contextual -dsimp -implicitDefEqProofs (maxSteps:=5000000) only [go_sem,reduceIte,reduceCtorEq,Nat.reduceEqDiff,Nat.reduceBEq,Nat.reduceAdd,Nat.reduceLeDiff,Nat.reduceMul,Nat.reduceLT,Int.reduceEq,Int.reduceLT,Int.reduceLE]
 refine k_one [1, 2, 1, 2, 3] _ hK hF (by omega) (by simp) rfl rfl fun v K1 hv hK1 => ?_
 have hv3 : 1 ≤ v ∧ v ≤ 3 := by simp at hv; omega
 simp +contextual -dsimp -implicitDefEqProofs (maxSteps:=5000000) only [go_sem,reduceIte,reduceCtorEq,Nat.reduceEqDiff,Nat.reduceBEq,Nat.reduceAdd,Nat.reduceLeDiff,Nat.reduceMul,Nat.reduceLT,Int.reduceEq,Int.reduceLT,Int.reduceLE]
 refine aloop mixed (fz := fun _ => []) (im := fun s => s == 5 || s == 11 || s == 13) (by kernel_rfl) (fun m tm H' => ∃ (l : List Line) (G : AHeap) (x : AV) (K : ABlk) (i : Nat), m = (v - i).toNat ∧ i ≤ v ∧ Grow rLine 4 41 F G x l ∧ G br = none ∧ RdK (n + 1 + i * p) K ∧ i ≤ l.length ∧ l.length ≤ i * p ∧ H' = G.set br K ∧ tm 0 = .ptr br 2 0 0 ∧ tm 5 = .vptr [[.vsl (t.map rClass) cl]] 0 0 ∧ tm 2 = I d ∧ tm 3 = B lp ∧ tm 9 = x ∧ tm 10 = I (v - i)) v.toNat ⟨[], F, .vsl [] true, K1, 0, by simp, by omega, grow_nil, hF, by simpa using hK1, by simp, by simp, rfl, ?_⟩ ?_
 ·simp +contextual -dsimp -implicitDefEqProofs (maxSteps:=5000000) only [go_sem,reduceIte,reduceCtorEq,Nat.reduceEqDiff,Nat.reduceBEq,Nat.reduceAdd,Nat.reduceLeDiff,Nat.reduceMul,Nat.reduceLT,Int.reduceEq,Int.reduceLT,Int.reduceLE]
  simp
 ·rintro m tm H' ⟨l, G, x, K, i, rfl, hiv, hg, fr, hK, hl1, hl2, rfl, t0, t5, t2, t3, t9, t10⟩
  have hm3 : i * p ≤ 3 * p := Nat.mul_le_mul_right p (by omega)
  have hs : (i + 1) * p = i * p + p := Nat.succ_mul i p
  by_cases hlt : (0 : Int) < v - i
  ·simp +contextual -dsimp -implicitDefEqProofs (maxSteps:=5000000) only [go_sem,reduceIte,reduceCtorEq,Nat.reduceEqDiff,Nat.reduceBEq,Nat.reduceAdd,Nat.reduceLeDiff,Nat.reduceMul,Nat.reduceLT,Int.reduceEq,Int.reduceLT,Int.reduceLE,t0,t2,t3,t5,t9,t10,hlt]
   have hm4 : (i + 1) * p ≤ 3 * p := Nat.mul_le_mul_right p (by omega)
   refine (hS G br _ K t cl lp hK fr (by omega)).mono ?_
   rintro _ H' ⟨l2, cl2, K2, rfl, rfl, hK2, h1, h2⟩
   simp +contextual -dsimp -implicitDefEqProofs (maxSteps:=5000000) only [go_sem,reduceIte,reduceCtorEq,Nat.reduceEqDiff,Nat.reduceBEq,Nat.reduceAdd,Nat.reduceLeDiff,Nat.reduceMul,Nat.reduceLT,Int.reduceEq,Int.reduceLT,Int.reduceLE,t0,t2,t3,t5,t9,t10,hlt]
   refine app_lines (m := l2) (grow_in hg fr) (by omega) rfl fun x' H' hg' => ?_
   obtain ⟨G1, hg1, rfl, u1⟩ := grow_out hg' (grow_none hg fr)
   simp +contextual -dsimp -implicitDefEqProofs (maxSteps:=5000000) only [go_sem,reduceIte,reduceCtorEq,Nat.reduceEqDiff,Nat.reduceBEq,Nat.reduceAdd,Nat.reduceLeDiff,Nat.reduceMul,Nat.reduceLT,Int.reduceEq,Int.reduceLT,Int.reduceLE,t0,t2,t3,t5,t9,t10,hlt]
   exact ⟨_, by omega, l ++ l2, G1, x', K2, i + 1, rfl, by omega, hg1, u1, rdk_mono hK2 (by omega), by simp; omega, by simp; omega, rfl, rfl, I_wrap (by omega) (by omega) (by omega)⟩
  ·simp +contextual -dsimp -implicitDefEqProofs (maxSteps:=5000000) only [go_sem,reduceIte,reduceCtorEq,Nat.reduceEqDiff,Nat.reduceBEq,Nat.reduceAdd,Nat.reduceLeDiff,Nat.reduceMul,Nat.reduceLT,Int.reduceEq,Int.reduceLT,Int.reduceLE,t0,t2,t3,t5,t9,t10,hlt]
   have hi1 : 1 ≤ i := by omega
   refine retR_less (l := [x]) (H' := G.set br K) ?_ (AHeap.le_refl _) ⟨l, G, K, hg, fr, rfl, rdk_mono hK (by omega), by omega, by omega⟩
   simp only [resA,go_sem,reduceIte,reduceCtorEq,Nat.reduceEqDiff,Nat.reduceBEq,Nat.reduceAdd,Nat.reduceLeDiff,Nat.reduceMul,Nat.reduceLT,Int.reduceEq,Int.reduceLT,Int.reduceLE]
theorem c_aTry {d : Int} {p : Nat} (hd : 0 ≤ d ∧ d ≤ 10) (hp : p ≤ 100000) (hB : DrawnF 135 p (d + 1)) : Drawn 134 (10 + 5 * p) d := by
 intro F br n K t cl lp hK hF hn
 have hwd : IntKind.i64.wrap (d + 1) = d + 1 := w64 (by omega) (by omega)
 refine acalls_of1 Tryz.func134 rfl (by kernel_rfl) rfl rfl (awp_sound (fz := fun _ => []) (im := fun s => s == 5 || s == 14 || s == 23 || s == 38 || s == 41 || s == 61 || s == 81) mixed _ _ _ _ (by kernel_rfl) ?_)
 simp +contextual -dsimp -implicitDefEqProofs (maxSteps:=5000000) only [go_sem,reduceIte,reduceCtorEq,Nat.reduceEqDiff,Nat.reduceBEq,Nat.reduceAdd,Nat.reduceLeDiff,Nat.reduceMul,Nat.reduceLT,Int.reduceEq,Int.reduceLT,Int.reduceLE,hwd]
 refine (hB F br _ K t cl lp hK hF (by omega)).mono ?_
 rintro _ H' ⟨l0, cl0, K0, rfl, rfl, hK0, h1, h2⟩
 simp +contextual -dsimp -implicitDefEqProofs (maxSteps:=5000000) only [go_sem,reduceIte,reduceCtorEq,Nat.reduceEqDiff,Nat.reduceBEq,Nat.reduceAdd,Nat.reduceLeDiff,Nat.reduceMul,Nat.reduceLT,Int.reduceEq,Int.reduceLT,Int.reduceLE]
 refine app_lit (y := ⟨d, 7, 0, 0⟩) rfl h1 (by omega) fun x H' hg => ?_
 obtain ⟨G, hg0, rfl, u0⟩ := grow_out hg hF
 simp +contextual -dsimp -implicitDefEqProofs (maxSteps:=5000000) only [go_sem,reduceIte,reduceCtorEq,Nat.reduceEqDiff,Nat.reduceBEq,Nat.reduceAdd,Nat.reduceLeDiff,Nat.reduceMul,Nat.reduceLT,Int.reduceEq,Int.reduceLT,Int.reduceLE]
 refine k_one [1, 2, 0, 1] _ hK0 u0 (by omega) (by simp) rfl rfl fun v K1 hv hK1 => ?_
 have hv2 : 0 ≤ v ∧ v ≤ 2 := by simp at hv; omega
 simp +contextual -dsimp -implicitDefEqProofs (maxSteps:=5000000) only [go_sem,reduceIte,reduceCtorEq,Nat.reduceEqDiff,Nat.reduceBEq,Nat.reduceAdd,Nat.reduceLeDiff,Nat.reduceMul,Nat.reduceLT,Int.reduceEq,Int.reduceLT,Int.reduceLE]
 refine aloop mixed (fz := fun _ => []) (im := fun s => s == 5 || s == 14 || s == 23 || s == 38 || s == 41 || s == 61 || s == 81) (by kernel_rfl) (fun m tm H' => ∃ (l : List Line) (G : AHeap) (x : AV) (K : ABlk) (i : Nat), m = (v - i).toNat ∧ i ≤ v ∧ Grow rLine 4 41 F G x l ∧ G br = none ∧ RdK (n + p + 1 + i * (p + 2)) K ∧ 1 ≤ l.length ∧ l.length ≤ 1 + p + i * (p + 2) ∧ H' = G.set br K ∧ tm 0 = .ptr br 2 0 0 ∧ tm 5 = .vptr [[.vsl (t.map rClass) cl]] 0 0 ∧ tm 2 = I d ∧ tm 3 = B lp ∧ tm 9 = x ∧ tm 10 = I v ∧ tm 11 = I (v - i)) v.toNat ⟨_, G, x, K1, 0, by simp, by omega, hg0, u0, by simpa using hK1, by simp, by simp; omega, rfl, ?_⟩ ?_
 ·simp +contextual -dsimp -implicitDefEqProofs (maxSteps:=5000000) only [go_sem,reduceIte,reduceCtorEq,Nat.reduceEqDiff,Nat.reduceBEq,Nat.reduceAdd,Nat.reduceLeDiff,Nat.reduceMul,Nat.reduceLT,Int.reduceEq,Int.reduceLT,Int.reduceLE]
  simp
 ·rintro m tm H' ⟨l, G, x, K, i, rfl, hiv, hg, fr, hK, hl1, hl2, rfl, t0, t5, t2, t3, t9, t10, t11⟩
  have hi2 : i * (p + 2) ≤ 2 * (p + 2) := Nat.mul_le_mul_right (p + 2) (by omega)
  have hs : (i + 1) * (p + 2) = i * (p + 2) + (p + 2) := Nat.succ_mul i (p + 2)
  by_cases hlt : (0 : Int) < v - i
  ·have hi3 : (i + 1) * (p + 2) ≤ 2 * (p + 2) := Nat.mul_le_mul_right (p + 2) (by omega)
   simp +contextual -dsimp -implicitDefEqProofs (maxSteps:=5000000) only [go_sem,reduceIte,reduceCtorEq,Nat.reduceEqDiff,Nat.reduceBEq,Nat.reduceAdd,Nat.reduceLeDiff,Nat.reduceMul,Nat.reduceLT,Int.reduceEq,Int.reduceLT,Int.reduceLE,t0,t2,t3,t5,t9,t10,t11,hlt,hwd]
   refine k_pick t.length hK fr (by omega) rfl fun a K2 _ _ _ hK2 => ?_
   simp +contextual -dsimp -implicitDefEqProofs (maxSteps:=5000000) only [go_sem,reduceIte,reduceCtorEq,Nat.reduceEqDiff,Nat.reduceBEq,Nat.reduceAdd,Nat.reduceLeDiff,Nat.reduceMul,Nat.reduceLT,Int.reduceEq,Int.reduceLT,Int.reduceLE,t0,t2,t3,t5,t9,t10,t11,hlt,hwd]
   refine k_one [a, 0] _ hK2 fr (by omega) (by simp) rfl rfl fun a K3 _ hK3 => ?_
   simp +contextual -dsimp -implicitDefEqProofs (maxSteps:=5000000) only [go_sem,reduceIte,reduceCtorEq,Nat.reduceEqDiff,Nat.reduceBEq,Nat.reduceAdd,Nat.reduceLeDiff,Nat.reduceMul,Nat.reduceLT,Int.reduceEq,Int.reduceLT,Int.reduceLE,t0,t2,t3,t5,t9,t10,t11,hlt,hwd]
   refine app_lines (m := [⟨d, 8, a, 0⟩]) (grow_in hg fr) (by simp; omega) rfl fun x' H' hg' => ?_
   obtain ⟨G1, hg1, rfl, u1⟩ := grow_out hg' (grow_none hg fr)
   simp +contextual -dsimp -implicitDefEqProofs (maxSteps:=5000000) only [go_sem,reduceIte,reduceCtorEq,Nat.reduceEqDiff,Nat.reduceBEq,Nat.reduceAdd,Nat.reduceLeDiff,Nat.reduceMul,Nat.reduceLT,Int.reduceEq,Int.reduceLT,Int.reduceLE,t0,t2,t3,t5,t9,t10,t11,hlt,hwd]
   refine (hB G1 br _ K3 t cl lp hK3 u1 (by omega)).mono ?_
   rintro _ H' ⟨l2, cl2, K4, rfl, rfl, hK4, h3, h4⟩
   simp +contextual -dsimp -implicitDefEqProofs (maxSteps:=5000000) only [go_sem,reduceIte,reduceCtorEq,Nat.reduceEqDiff,Nat.reduceBEq,Nat.reduceAdd,Nat.reduceLeDiff,Nat.reduceMul,Nat.reduceLT,Int.reduceEq,Int.reduceLT,Int.reduceLE,t0,t2,t3,t5,t9,t10,t11,hlt,hwd]
   refine app_lines (m := l2) (grow_in hg1 u1) (by simp; omega) rfl fun x' H' hg' => ?_
   obtain ⟨G2, hg2, rfl, u2⟩ := grow_out hg' (grow_none hg1 u1)
   simp +contextual -dsimp -implicitDefEqProofs (maxSteps:=5000000) only [go_sem,reduceIte,reduceCtorEq,Nat.reduceEqDiff,Nat.reduceBEq,Nat.reduceAdd,Nat.reduceLeDiff,Nat.reduceMul,Nat.reduceLT,Int.reduceEq,Int.reduceLT,Int.reduceLE,t0,t2,t3,t5,t9,t10,t11,hlt,hwd]
   exact ⟨_, by omega, _, G2, x', K4, i + 1, rfl, by omega, hg2, u2, rdk_mono hK4 (by omega), by simp; omega, by simp; omega, rfl, rfl, I_wrap (by omega) (by omega) (by omega)⟩
  ·simp +contextual -dsimp -implicitDefEqProofs (maxSteps:=5000000) only [go_sem,reduceIte,reduceCtorEq,Nat.reduceEqDiff,Nat.reduceBEq,Nat.reduceAdd,Nat.reduceLeDiff,Nat.reduceMul,Nat.reduceLT,Int.reduceEq,Int.reduceLT,Int.reduceLE,t0,t2,t3,t5,t9,t10,t11,hlt,hwd]
   refine ⟨fun v1 => ?_, fun v1 => ⟨fun v0 => absurd v1 (by omega), fun v0 => ?_⟩⟩
   ·have v0 : ¬ v = 0 := by omega
    refine k_pick 3 hK fr (by omega) rfl fun a K2 _ _ _ hK2 => ?_
    simp +contextual -dsimp -implicitDefEqProofs (maxSteps:=5000000) only [go_sem,reduceIte,reduceCtorEq,Nat.reduceEqDiff,Nat.reduceBEq,Nat.reduceAdd,Nat.reduceLeDiff,Nat.reduceMul,Nat.reduceLT,Int.reduceEq,Int.reduceLT,Int.reduceLE,t0,t2,t3,t5,t9,t10,t11,hlt,hwd,v0,v1]
    refine ⟨fun _ => ?_, fun _ => ?_⟩
    ·refine app_lines (m := [⟨d, 9, 0, 0⟩]) (grow_in hg fr) (by simp; omega) rfl fun x' H' hg' => ?_
     obtain ⟨G1, hg1, rfl, u1⟩ := grow_out hg' (grow_none hg fr)
     simp +contextual -dsimp -implicitDefEqProofs (maxSteps:=5000000) only [go_sem,reduceIte,reduceCtorEq,Nat.reduceEqDiff,Nat.reduceBEq,Nat.reduceAdd,Nat.reduceLeDiff,Nat.reduceMul,Nat.reduceLT,Int.reduceEq,Int.reduceLT,Int.reduceLE,t0,t2,t3,t5,t9,t10,t11,hlt,hwd,v0,v1]
     refine (hB G1 br _ _ t cl lp hK2 u1 (by omega)).mono ?_
     rintro _ H' ⟨l2, cl2, K4, rfl, rfl, hK4, h3, h4⟩
     simp +contextual -dsimp -implicitDefEqProofs (maxSteps:=5000000) only [go_sem,reduceIte,reduceCtorEq,Nat.reduceEqDiff,Nat.reduceBEq,Nat.reduceAdd,Nat.reduceLeDiff,Nat.reduceMul,Nat.reduceLT,Int.reduceEq,Int.reduceLT,Int.reduceLE,t0,t2,t3,t5,t9,t10,t11,hlt,hwd,v0,v1]
     refine app_lines (m := l2) (grow_in hg1 u1) (by simp; omega) rfl fun x2 H' hg' => ?_
     obtain ⟨G2, hg2, rfl, u2⟩ := grow_out hg' (grow_none hg1 u1)
     simp +contextual -dsimp -implicitDefEqProofs (maxSteps:=5000000) only [go_sem,reduceIte,reduceCtorEq,Nat.reduceEqDiff,Nat.reduceBEq,Nat.reduceAdd,Nat.reduceLeDiff,Nat.reduceMul,Nat.reduceLT,Int.reduceEq,Int.reduceLT,Int.reduceLE,t0,t2,t3,t5,t9,t10,t11,hlt,hwd,v0,v1]
     refine k_pick 2 hK4 u2 (by omega) rfl fun b K7 _ _ _ hK7 => ?_
     simp +contextual -dsimp -implicitDefEqProofs (maxSteps:=5000000) only [go_sem,reduceIte,reduceCtorEq,Nat.reduceEqDiff,Nat.reduceBEq,Nat.reduceAdd,Nat.reduceLeDiff,Nat.reduceMul,Nat.reduceLT,Int.reduceEq,Int.reduceLT,Int.reduceLE,t0,t2,t3,t5,t9,t10,t11,hlt,hwd,v0,v1]
     refine ⟨fun _ => ?_, fun _ => ?_⟩
     ·skip
      refine app_lines (m := [⟨d, 10, 0, 0⟩]) (grow_in hg2 u2) (by simp; omega) rfl fun x' H' hg' => ?_
      obtain ⟨G8, hg8, rfl, u8⟩ := grow_out hg' (grow_none hg2 u2)
      simp +contextual -dsimp -implicitDefEqProofs (maxSteps:=5000000) only [go_sem,reduceIte,reduceCtorEq,Nat.reduceEqDiff,Nat.reduceBEq,Nat.reduceAdd,Nat.reduceLeDiff,Nat.reduceMul,Nat.reduceLT,Int.reduceEq,Int.reduceLT,Int.reduceLE,t0,t2,t3,t5,t9,t10,t11,hlt,hwd,v0,v1]
      refine (hB G8 br _ _ t cl lp hK7 u8 (by omega)).mono ?_
      rintro _ H' ⟨l8, cl8, K8, rfl, rfl, hK8, h8, h9⟩
      simp +contextual -dsimp -implicitDefEqProofs (maxSteps:=5000000) only [go_sem,reduceIte,reduceCtorEq,Nat.reduceEqDiff,Nat.reduceBEq,Nat.reduceAdd,Nat.reduceLeDiff,Nat.reduceMul,Nat.reduceLT,Int.reduceEq,Int.reduceLT,Int.reduceLE,t0,t2,t3,t5,t9,t10,t11,hlt,hwd,v0,v1]
      refine app_lines (m := l8) (grow_in hg8 u8) (by simp; omega) rfl fun x' H' hg' => ?_
      obtain ⟨G9, hg9, rfl, u9⟩ := grow_out hg' (grow_none hg8 u8)
      simp +contextual -dsimp -implicitDefEqProofs (maxSteps:=5000000) only [go_sem,reduceIte,reduceCtorEq,Nat.reduceEqDiff,Nat.reduceBEq,Nat.reduceAdd,Nat.reduceLeDiff,Nat.reduceMul,Nat.reduceLT,Int.reduceEq,Int.reduceLT,Int.reduceLE,t0,t2,t3,t5,t9,t10,t11,hlt,hwd,v0,v1]
      refine retR_less (l := [x']) (H' := G9.set br K8) ?_ (AHeap.le_refl _) ⟨_, G9, K8, hg9, u9, rfl, rdk_mono hK8 (by omega), by first | omega | (simp; omega), by first | omega | (simp; omega)⟩
      simp only [resA,go_sem,reduceIte,reduceCtorEq,Nat.reduceEqDiff,Nat.reduceBEq,Nat.reduceAdd,Nat.reduceLeDiff,Nat.reduceMul,Nat.reduceLT,Int.reduceEq,Int.reduceLT,Int.reduceLE]
     ·refine retR_less (l := [x2]) (H' := AHeap.set _ br K7) ?_ (AHeap.le_refl _) ⟨_, _, K7, hg2, u2, rfl, rdk_mono hK7 (by omega), by first | omega | (simp; omega), by first | omega | (simp; omega)⟩
      simp only [resA,go_sem,reduceIte,reduceCtorEq,Nat.reduceEqDiff,Nat.reduceBEq,Nat.reduceAdd,Nat.reduceLeDiff,Nat.reduceMul,Nat.reduceLT,Int.reduceEq,Int.reduceLT,Int.reduceLE,t9]
    ·skip
     refine k_pick 2 hK2 fr (by omega) rfl fun b K7 _ _ _ hK7 => ?_
     simp +contextual -dsimp -implicitDefEqProofs (maxSteps:=5000000) only [go_sem,reduceIte,reduceCtorEq,Nat.reduceEqDiff,Nat.reduceBEq,Nat.reduceAdd,Nat.reduceLeDiff,Nat.reduceMul,Nat.reduceLT,Int.reduceEq,Int.reduceLT,Int.reduceLE,t0,t2,t3,t5,t9,t10,t11,hlt,hwd,v0,v1]
     refine ⟨fun _ => ?_, fun _ => ?_⟩
     ·skip
      refine app_lines (m := [⟨d, 10, 0, 0⟩]) (grow_in hg fr) (by simp; omega) rfl fun x' H' hg' => ?_
      obtain ⟨G8, hg8, rfl, u8⟩ := grow_out hg' (grow_none hg fr)
      simp +contextual -dsimp -implicitDefEqProofs (maxSteps:=5000000) only [go_sem,reduceIte,reduceCtorEq,Nat.reduceEqDiff,Nat.reduceBEq,Nat.reduceAdd,Nat.reduceLeDiff,Nat.reduceMul,Nat.reduceLT,Int.reduceEq,Int.reduceLT,Int.reduceLE,t0,t2,t3,t5,t9,t10,t11,hlt,hwd,v0,v1]
      refine (hB G8 br _ _ t cl lp hK7 u8 (by omega)).mono ?_
      rintro _ H' ⟨l8, cl8, K8, rfl, rfl, hK8, h8, h9⟩
      simp +contextual -dsimp -implicitDefEqProofs (maxSteps:=5000000) only [go_sem,reduceIte,reduceCtorEq,Nat.reduceEqDiff,Nat.reduceBEq,Nat.reduceAdd,Nat.reduceLeDiff,Nat.reduceMul,Nat.reduceLT,Int.reduceEq,Int.reduceLT,Int.reduceLE,t0,t2,t3,t5,t9,t10,t11,hlt,hwd,v0,v1]
      refine app_lines (m := l8) (grow_in hg8 u8) (by simp; omega) rfl fun x' H' hg' => ?_
      obtain ⟨G9, hg9, rfl, u9⟩ := grow_out hg' (grow_none hg8 u8)
      simp +contextual -dsimp -implicitDefEqProofs (maxSteps:=5000000) only [go_sem,reduceIte,reduceCtorEq,Nat.reduceEqDiff,Nat.reduceBEq,Nat.reduceAdd,Nat.reduceLeDiff,Nat.reduceMul,Nat.reduceLT,Int.reduceEq,Int.reduceLT,Int.reduceLE,t0,t2,t3,t5,t9,t10,t11,hlt,hwd,v0,v1]
      refine retR_less (l := [x']) (H' := G9.set br K8) ?_ (AHeap.le_refl _) ⟨_, G9, K8, hg9, u9, rfl, rdk_mono hK8 (by omega), by first | omega | (simp; omega), by first | omega | (simp; omega)⟩
      simp only [resA,go_sem,reduceIte,reduceCtorEq,Nat.reduceEqDiff,Nat.reduceBEq,Nat.reduceAdd,Nat.reduceLeDiff,Nat.reduceMul,Nat.reduceLT,Int.reduceEq,Int.reduceLT,Int.reduceLE]
     ·refine retR_less (l := [x]) (H' := AHeap.set _ br K7) ?_ (AHeap.le_refl _) ⟨_, _, K7, hg, fr, rfl, rdk_mono hK7 (by omega), by first | omega | (simp; omega), by first | omega | (simp; omega)⟩
      simp only [resA,go_sem,reduceIte,reduceCtorEq,Nat.reduceEqDiff,Nat.reduceBEq,Nat.reduceAdd,Nat.reduceLeDiff,Nat.reduceMul,Nat.reduceLT,Int.reduceEq,Int.reduceLT,Int.reduceLE,t9]
   ·skip
    refine app_lines (m := [⟨d, 10, 0, 0⟩]) (grow_in hg fr) (by simp; omega) rfl fun x' H' hg' => ?_
    obtain ⟨G8, hg8, rfl, u8⟩ := grow_out hg' (grow_none hg fr)
    simp +contextual -dsimp -implicitDefEqProofs (maxSteps:=5000000) only [go_sem,reduceIte,reduceCtorEq,Nat.reduceEqDiff,Nat.reduceBEq,Nat.reduceAdd,Nat.reduceLeDiff,Nat.reduceMul,Nat.reduceLT,Int.reduceEq,Int.reduceLT,Int.reduceLE,t0,t2,t3,t5,t9,t10,t11,hlt,hwd,v0,v1]
    refine (hB G8 br _ _ t cl lp hK u8 (by omega)).mono ?_
    rintro _ H' ⟨l8, cl8, K8, rfl, rfl, hK8, h8, h9⟩
    simp +contextual -dsimp -implicitDefEqProofs (maxSteps:=5000000) only [go_sem,reduceIte,reduceCtorEq,Nat.reduceEqDiff,Nat.reduceBEq,Nat.reduceAdd,Nat.reduceLeDiff,Nat.reduceMul,Nat.reduceLT,Int.reduceEq,Int.reduceLT,Int.reduceLE,t0,t2,t3,t5,t9,t10,t11,hlt,hwd,v0,v1]
    refine app_lines (m := l8) (grow_in hg8 u8) (by simp; omega) rfl fun x' H' hg' => ?_
    obtain ⟨G9, hg9, rfl, u9⟩ := grow_out hg' (grow_none hg8 u8)
    simp +contextual -dsimp -implicitDefEqProofs (maxSteps:=5000000) only [go_sem,reduceIte,reduceCtorEq,Nat.reduceEqDiff,Nat.reduceBEq,Nat.reduceAdd,Nat.reduceLeDiff,Nat.reduceMul,Nat.reduceLT,Int.reduceEq,Int.reduceLT,Int.reduceLE,t0,t2,t3,t5,t9,t10,t11,hlt,hwd,v0,v1]
    refine retR_less (l := [x']) (H' := G9.set br K8) ?_ (AHeap.le_refl _) ⟨_, G9, K8, hg9, u9, rfl, rdk_mono hK8 (by omega), by first | omega | (simp; omega), by first | omega | (simp; omega)⟩
    simp only [resA,go_sem,reduceIte,reduceCtorEq,Nat.reduceEqDiff,Nat.reduceBEq,Nat.reduceAdd,Nat.reduceLeDiff,Nat.reduceMul,Nat.reduceLT,Int.reduceEq,Int.reduceLT,Int.reduceLE]
end
section
open Go Go.Sim
set_option maxRecDepth 100000
set_option maxHeartbeats 4000000

theorem c_aStatement {d : Int} {p p1 p2 : Nat} (hd : 0 ≤ d ∧ d ≤ 3) (h6 : 6 ≤ p) (hp1 : p1 + 6 ≤ p) (hp2 : p2 + 6 ≤ p) (hp : p ≤ 300000) (hB : d < 3 → DrawnF 135 p1 (d + 1)) (hT : d < 3 → DrawnF 134 p2 d) : DrawnF 172 p d := by
 intro F br n K t cl lp hK hF hn
 have hwd : IntKind.i64.wrap (d + 1) = d + 1 := w64 (by omega) (by omega)
 refine acalls_of1 Tryz.func172 rfl (by kernel_rfl) rfl rfl (awp_sound (fz := fun _ => []) (im := fun s => s == 5 || s == 29 || s == 43 || s == 57 || s == 65 || s == 96 || s == 108) mixed _ _ _ _ (by kernel_rfl) ?_)
 simp +contextual -dsimp -implicitDefEqProofs (maxSteps:=5000000) only [go_sem,reduceIte,reduceCtorEq,Nat.reduceEqDiff,Nat.reduceBEq,Nat.reduceAdd,Nat.reduceLeDiff,Nat.reduceMul,Nat.reduceLT,Int.reduceEq,Int.reduceLT,Int.reduceLE]
 refine k_pick 16 hK hF (by omega) rfl fun k0 K0 q0 q1 _ hK0 => ?_
 simp +contextual -dsimp -implicitDefEqProofs (maxSteps:=5000000) only [go_sem,reduceIte,reduceCtorEq,Nat.reduceEqDiff,Nat.reduceBEq,Nat.reduceAdd,Nat.reduceLeDiff,Nat.reduceMul,Nat.reduceLT,Int.reduceEq,Int.reduceLT,Int.reduceLE]
 refine ⟨fun h3 => ?_, fun h3 => ?_⟩
 ·refine k_pick 9 hK0 hF (by omega) rfl fun k K1 r0 r1 _ hK1 => ?_
  simp +contextual -dsimp -implicitDefEqProofs (maxSteps:=5000000) only [go_sem,reduceIte,reduceCtorEq,Nat.reduceEqDiff,Nat.reduceBEq,Nat.reduceAdd,Nat.reduceLeDiff,Nat.reduceMul,Nat.reduceLT,Int.reduceEq,Int.reduceLT,Int.reduceLE]
  skip
  rintro b10 ⟨n1, n2, hb⟩
  simp only [br_out n1]
  have nb : ∀ K, (F.set b10 K) br = none := fun K => by rw [set_other n2]; exact hF
  have le : ∀ K K', AHeap.le (F.set br K') ((F.set b10 K).set br K') := fun K K' => le_ch (le_s1 (AHeap.le_refl _) hb)
  by_cases c4 : k < 4
  ·simp +contextual -dsimp -implicitDefEqProofs (maxSteps:=5000000) only [go_sem,reduceIte,reduceCtorEq,Nat.reduceEqDiff,Nat.reduceBEq,Nat.reduceAdd,Nat.reduceLeDiff,Nat.reduceMul,Nat.reduceLT,Int.reduceEq,Int.reduceLT,Int.reduceLE,c4,n1,n2]
   refine k_one [1, 2, 3, 4, 5] _ hK1 (nb _) (by omega) (by simp) rfl rfl fun v K1 _ hK1 => ?_
   simp +contextual -dsimp -implicitDefEqProofs (maxSteps:=5000000) only [go_sem,reduceIte,reduceCtorEq,Nat.reduceEqDiff,Nat.reduceBEq,Nat.reduceAdd,Nat.reduceLeDiff,Nat.reduceMul,Nat.reduceLT,Int.reduceEq,Int.reduceLT,Int.reduceLE,c4,n1,n2]
   refine retR_less (l := [.vsl [rLine ⟨d, 1, v, 0⟩] true]) (H' := F.set br K1) ?_ (le _ _) ⟨[⟨d, 1, v, 0⟩], true, K1, rfl, rfl, rdk_mono hK1 (by omega), by simp, by simp; omega⟩
   simp only [resA,go_sem,reduceIte,reduceCtorEq,Nat.reduceEqDiff,Nat.reduceBEq,Nat.reduceAdd,Nat.reduceLeDiff,Nat.reduceMul,Nat.reduceLT,Int.reduceEq,Int.reduceLT,Int.reduceLE]
  by_cases c6 : k < 6
  ·simp +contextual -dsimp -implicitDefEqProofs (maxSteps:=5000000) only [go_sem,reduceIte,reduceCtorEq,Nat.reduceEqDiff,Nat.reduceBEq,Nat.reduceAdd,Nat.reduceLeDiff,Nat.reduceMul,Nat.reduceLT,Int.reduceEq,Int.reduceLT,Int.reduceLE,c4,c6,n1,n2]
   refine k_pick t.length hK1 (nb _) (by omega) rfl fun a K1 _ _ _ hK1 => ?_
   simp +contextual -dsimp -implicitDefEqProofs (maxSteps:=5000000) only [go_sem,reduceIte,reduceCtorEq,Nat.reduceEqDiff,Nat.reduceBEq,Nat.reduceAdd,Nat.reduceLeDiff,Nat.reduceMul,Nat.reduceLT,Int.reduceEq,Int.reduceLT,Int.reduceLE,c4,c6,n1,n2]
   refine k_one [1, 2, 3] _ hK1 (nb _) (by omega) (by simp) rfl rfl fun v K2 _ hK2 => ?_
   simp +contextual -dsimp -implicitDefEqProofs (maxSteps:=5000000) only [go_sem,reduceIte,reduceCtorEq,Nat.reduceEqDiff,Nat.reduceBEq,Nat.reduceAdd,Nat.reduceLeDiff,Nat.reduceMul,Nat.reduceLT,Int.reduceEq,Int.reduceLT,Int.reduceLE,c4,c6,n1,n2]
   refine retR_less (l := [.vsl [rLine ⟨d, 2, a, v⟩] true]) (H' := F.set br K2) ?_ (le _ _) ⟨[⟨d, 2, a, v⟩], true, K2, rfl, rfl, rdk_mono hK2 (by omega), by simp, by simp; omega⟩
   simp only [resA,go_sem,reduceIte,reduceCtorEq,Nat.reduceEqDiff,Nat.reduceBEq,Nat.reduceAdd,Nat.reduceLeDiff,Nat.reduceMul,Nat.reduceLT,Int.reduceEq,Int.reduceLT,Int.reduceLE]
  by_cases e6 : k = 6
  ·simp +contextual -dsimp -implicitDefEqProofs (maxSteps:=5000000) only [go_sem,reduceIte,reduceCtorEq,Nat.reduceEqDiff,Nat.reduceBEq,Nat.reduceAdd,Nat.reduceLeDiff,Nat.reduceMul,Nat.reduceLT,Int.reduceEq,Int.reduceLT,Int.reduceLE,c4,c6,e6,n1,n2]
   refine retR_less (l := [.vsl [rLine ⟨d, 3, 0, 0⟩] true]) (H' := AHeap.set F br _) ?_ (le _ _) ⟨[⟨d, 3, 0, 0⟩], true, _, rfl, rfl, rdk_mono hK1 (by omega), by simp, by simp; omega⟩
   simp only [resA,go_sem,reduceIte,reduceCtorEq,Nat.reduceEqDiff,Nat.reduceBEq,Nat.reduceAdd,Nat.reduceLeDiff,Nat.reduceMul,Nat.reduceLT,Int.reduceEq,Int.reduceLT,Int.reduceLE]
  by_cases e7 : k = 7
  ·cases lp
   ·simp +contextual -dsimp -implicitDefEqProofs (maxSteps:=5000000) only [go_sem,reduceIte,reduceCtorEq,Nat.reduceEqDiff,Nat.reduceBEq,Nat.reduceAdd,Nat.reduceLeDiff,Nat.reduceMul,Nat.reduceLT,Int.reduceEq,Int.reduceLT,Int.reduceLE,c4,c6,e6,e7,n1,n2]
    refine k_one [7, 8] _ hK1 (nb _) (by omega) (by simp) rfl rfl fun v K1 _ hK1 => ?_
    simp +contextual -dsimp -implicitDefEqProofs (maxSteps:=5000000) only [go_sem,reduceIte,reduceCtorEq,Nat.reduceEqDiff,Nat.reduceBEq,Nat.reduceAdd,Nat.reduceLeDiff,Nat.reduceMul,Nat.reduceLT,Int.reduceEq,Int.reduceLT,Int.reduceLE,c4,c6,e6,e7,n1,n2]
    refine retR_less (l := [.vsl [rLine ⟨d, 4, v, 0⟩] true]) (H' := F.set br K1) ?_ (le _ _) ⟨[⟨d, 4, v, 0⟩], true, K1, rfl, rfl, rdk_mono hK1 (by omega), by simp, by simp; omega⟩
    simp only [resA,go_sem,reduceIte,reduceCtorEq,Nat.reduceEqDiff,Nat.reduceBEq,Nat.reduceAdd,Nat.reduceLeDiff,Nat.reduceMul,Nat.reduceLT,Int.reduceEq,Int.reduceLT,Int.reduceLE]
   ·simp +contextual -dsimp -implicitDefEqProofs (maxSteps:=5000000) only [go_sem,reduceIte,reduceCtorEq,Nat.reduceEqDiff,Nat.reduceBEq,Nat.reduceAdd,Nat.reduceLeDiff,Nat.reduceMul,Nat.reduceLT,Int.reduceEq,Int.reduceLT,Int.reduceLE,c4,c6,e6,e7,n1,n2]
    refine k_one [5, 6] _ hK1 (nb _) (by omega) (by simp) rfl rfl fun v K1 _ hK1 => ?_
    simp +contextual -dsimp -implicitDefEqProofs (maxSteps:=5000000) only [go_sem,reduceIte,reduceCtorEq,Nat.reduceEqDiff,Nat.reduceBEq,Nat.reduceAdd,Nat.reduceLeDiff,Nat.reduceMul,Nat.reduceLT,Int.reduceEq,Int.reduceLT,Int.reduceLE,c4,c6,e6,e7,n1,n2]
    refine retR_less (l := [.vsl [rLine ⟨d, v, 0, 0⟩] true]) (H' := F.set br K1) ?_ (le _ _) ⟨[⟨d, v, 0, 0⟩], true, K1, rfl, rfl, rdk_mono hK1 (by omega), by simp, by simp; omega⟩
    simp only [resA,go_sem,reduceIte,reduceCtorEq,Nat.reduceEqDiff,Nat.reduceBEq,Nat.reduceAdd,Nat.reduceLeDiff,Nat.reduceMul,Nat.reduceLT,Int.reduceEq,Int.reduceLT,Int.reduceLE]
  by_cases e8 : k = 8
  ·simp +contextual -dsimp -implicitDefEqProofs (maxSteps:=5000000) only [go_sem,reduceIte,reduceCtorEq,Nat.reduceEqDiff,Nat.reduceBEq,Nat.reduceAdd,Nat.reduceLeDiff,Nat.reduceMul,Nat.reduceLT,Int.reduceEq,Int.reduceLT,Int.reduceLE,c4,c6,e6,e7,e8,n1,n2]
   refine retR_less (l := [.vsl [rLine ⟨d, 0, 0, 0⟩] true]) (H' := AHeap.set F br _) ?_ (le _ _) ⟨[⟨d, 0, 0, 0⟩], true, _, rfl, rfl, rdk_mono hK1 (by omega), by simp, by simp; omega⟩
   simp only [resA,go_sem,reduceIte,reduceCtorEq,Nat.reduceEqDiff,Nat.reduceBEq,Nat.reduceAdd,Nat.reduceLeDiff,Nat.reduceMul,Nat.reduceLT,Int.reduceEq,Int.reduceLT,Int.reduceLE]
  omega
 ·skip
  rintro b10 ⟨n1, n2, hb⟩
  simp only [br_out n1]
  have nb : ∀ K, (F.set b10 K) br = none := fun K => by rw [set_other n2]; exact hF
  have le : ∀ K K', AHeap.le (F.set br K') ((F.set b10 K).set br K') := fun K K' => le_ch (le_s1 (AHeap.le_refl _) hb)
  by_cases c4 : k0 < 4
  ·simp +contextual -dsimp -implicitDefEqProofs (maxSteps:=5000000) only [go_sem,reduceIte,reduceCtorEq,Nat.reduceEqDiff,Nat.reduceBEq,Nat.reduceAdd,Nat.reduceLeDiff,Nat.reduceMul,Nat.reduceLT,Int.reduceEq,Int.reduceLT,Int.reduceLE,c4,n1,n2]
   refine k_one [1, 2, 3, 4, 5] _ hK0 (nb _) (by omega) (by simp) rfl rfl fun v K1 _ hK1 => ?_
   simp +contextual -dsimp -implicitDefEqProofs (maxSteps:=5000000) only [go_sem,reduceIte,reduceCtorEq,Nat.reduceEqDiff,Nat.reduceBEq,Nat.reduceAdd,Nat.reduceLeDiff,Nat.reduceMul,Nat.reduceLT,Int.reduceEq,Int.reduceLT,Int.reduceLE,c4,n1,n2]
   refine retR_less (l := [.vsl [rLine ⟨d, 1, v, 0⟩] true]) (H' := F.set br K1) ?_ (le _ _) ⟨[⟨d, 1, v, 0⟩], true, K1, rfl, rfl, rdk_mono hK1 (by omega), by simp, by simp; omega⟩
   simp only [resA,go_sem,reduceIte,reduceCtorEq,Nat.reduceEqDiff,Nat.reduceBEq,Nat.reduceAdd,Nat.reduceLeDiff,Nat.reduceMul,Nat.reduceLT,Int.reduceEq,Int.reduceLT,Int.reduceLE]
  by_cases c6 : k0 < 6
  ·simp +contextual -dsimp -implicitDefEqProofs (maxSteps:=5000000) only [go_sem,reduceIte,reduceCtorEq,Nat.reduceEqDiff,Nat.reduceBEq,Nat.reduceAdd,Nat.reduceLeDiff,Nat.reduceMul,Nat.reduceLT,Int.reduceEq,Int.reduceLT,Int.reduceLE,c4,c6,n1,n2]
   refine k_pick t.length hK0 (nb _) (by omega) rfl fun a K1 _ _ _ hK1 => ?_
   simp +contextual -dsimp -implicitDefEqProofs (maxSteps:=5000000) only [go_sem,reduceIte,reduceCtorEq,Nat.reduceEqDiff,Nat.reduceBEq,Nat.reduceAdd,Nat.reduceLeDiff,Nat.reduceMul,Nat.reduceLT,Int.reduceEq,Int.reduceLT,Int.reduceLE,c4,c6,n1,n2]
   refine k_one [1, 2, 3] _ hK1 (nb _) (by omega) (by simp) rfl rfl fun v K2 _ hK2 => ?_
   simp +contextual -dsimp -implicitDefEqProofs (maxSteps:=5000000) only [go_sem,reduceIte,reduceCtorEq,Nat.reduceEqDiff,Nat.reduceBEq,Nat.reduceAdd,Nat.reduceLeDiff,Nat.reduceMul,Nat.reduceLT,Int.reduceEq,Int.reduceLT,Int.reduceLE,c4,c6,n1,n2]
   refine retR_less (l := [.vsl [rLine ⟨d, 2, a, v⟩] true]) (H' := F.set br K2) ?_ (le _ _) ⟨[⟨d, 2, a, v⟩], true, K2, rfl, rfl, rdk_mono hK2 (by omega), by simp, by simp; omega⟩
   simp only [resA,go_sem,reduceIte,reduceCtorEq,Nat.reduceEqDiff,Nat.reduceBEq,Nat.reduceAdd,Nat.reduceLeDiff,Nat.reduceMul,Nat.reduceLT,Int.reduceEq,Int.reduceLT,Int.reduceLE]
  by_cases e6 : k0 = 6
  ·simp +contextual -dsimp -implicitDefEqProofs (maxSteps:=5000000) only [go_sem,reduceIte,reduceCtorEq,Nat.reduceEqDiff,Nat.reduceBEq,Nat.reduceAdd,Nat.reduceLeDiff,Nat.reduceMul,Nat.reduceLT,Int.reduceEq,Int.reduceLT,Int.reduceLE,c4,c6,e6,n1,n2]
   refine retR_less (l := [.vsl [rLine ⟨d, 3, 0, 0⟩] true]) (H' := AHeap.set F br _) ?_ (le _ _) ⟨[⟨d, 3, 0, 0⟩], true, _, rfl, rfl, rdk_mono hK0 (by omega), by simp, by simp; omega⟩
   simp only [resA,go_sem,reduceIte,reduceCtorEq,Nat.reduceEqDiff,Nat.reduceBEq,Nat.reduceAdd,Nat.reduceLeDiff,Nat.reduceMul,Nat.reduceLT,Int.reduceEq,Int.reduceLT,Int.reduceLE]
  by_cases e7 : k0 = 7
  ·cases lp
   ·simp +contextual -dsimp -implicitDefEqProofs (maxSteps:=5000000) only [go_sem,reduceIte,reduceCtorEq,Nat.reduceEqDiff,Nat.reduceBEq,Nat.reduceAdd,Nat.reduceLeDiff,Nat.reduceMul,Nat.reduceLT,Int.reduceEq,Int.reduceLT,Int.reduceLE,c4,c6,e6,e7,n1,n2]
    refine k_one [7, 8] _ hK0 (nb _) (by omega) (by simp) rfl rfl fun v K1 _ hK1 => ?_
    simp +contextual -dsimp -implicitDefEqProofs (maxSteps:=5000000) only [go_sem,reduceIte,reduceCtorEq,Nat.reduceEqDiff,Nat.reduceBEq,Nat.reduceAdd,Nat.reduceLeDiff,Nat.reduceMul,Nat.reduceLT,Int.reduceEq,Int.reduceLT,Int.reduceLE,c4,c6,e6,e7,n1,n2]
    refine retR_less (l := [.vsl [rLine ⟨d, 4, v, 0⟩] true]) (H' := F.set br K1) ?_ (le _ _) ⟨[⟨d, 4, v, 0⟩], true, K1, rfl, rfl, rdk_mono hK1 (by omega), by simp, by simp; omega⟩
    simp only [resA,go_sem,reduceIte,reduceCtorEq,Nat.reduceEqDiff,Nat.reduceBEq,Nat.reduceAdd,Nat.reduceLeDiff,Nat.reduceMul,Nat.reduceLT,Int.reduceEq,Int.reduceLT,Int.reduceLE]
   ·simp +contextual -dsimp -implicitDefEqProofs (maxSteps:=5000000) only [go_sem,reduceIte,reduceCtorEq,Nat.reduceEqDiff,Nat.reduceBEq,Nat.reduceAdd,Nat.reduceLeDiff,Nat.reduceMul,Nat.reduceLT,Int.reduceEq,Int.reduceLT,Int.reduceLE,c4,c6,e6,e7,n1,n2]
    refine k_one [5, 6] _ hK0 (nb _) (by omega) (by simp) rfl rfl fun v K1 _ hK1 => ?_
    simp +contextual -dsimp -implicitDefEqProofs (maxSteps:=5000000) only [go_sem,reduceIte,reduceCtorEq,Nat.reduceEqDiff,Nat.reduceBEq,Nat.reduceAdd,Nat.reduceLeDiff,Nat.reduceMul,Nat.reduceLT,Int.reduceEq,Int.reduceLT,Int.reduceLE,c4,c6,e6,e7,n1,n2]
    refine retR_less (l := [.vsl [rLine ⟨d, v, 0, 0⟩] true]) (H' := F.set br K1) ?_ (le _ _) ⟨[⟨d, v, 0, 0⟩], true, K1, rfl, rfl, rdk_mono hK1 (by omega), by simp, by simp; omega⟩
    simp only [resA,go_sem,reduceIte,reduceCtorEq,Nat.reduceEqDiff,Nat.reduceBEq,Nat.reduceAdd,Nat.reduceLeDiff,Nat.reduceMul,Nat.reduceLT,Int.reduceEq,Int.reduceLT,Int.reduceLE]
  by_cases e8 : k0 = 8
  ·simp +contextual -dsimp -implicitDefEqProofs (maxSteps:=5000000) only [go_sem,reduceIte,reduceCtorEq,Nat.reduceEqDiff,Nat.reduceBEq,Nat.reduceAdd,Nat.reduceLeDiff,Nat.reduceMul,Nat.reduceLT,Int.reduceEq,Int.reduceLT,Int.reduceLE,c4,c6,e6,e7,e8,n1,n2]
   refine retR_less (l := [.vsl [rLine ⟨d, 0, 0, 0⟩] true]) (H' := AHeap.set F br _) ?_ (le _ _) ⟨[⟨d, 0, 0, 0⟩], true, _, rfl, rfl, rdk_mono hK0 (by omega), by simp, by simp; omega⟩
   simp only [resA,go_sem,reduceIte,reduceCtorEq,Nat.reduceEqDiff,Nat.reduceBEq,Nat.reduceAdd,Nat.reduceLeDiff,Nat.reduceMul,Nat.reduceLT,Int.reduceEq,Int.reduceLT,Int.reduceLE]
  have h3' : d < 3 := by omega
  have hB := hB h3'
  have hT := hT h3'
  have nb : ∀ K, (F.set b10 K) br = none := fun K => by rw [set_other n2]; exact hF
  have le : ∀ K K', AHeap.le (F.set br K') ((F.set b10 K).set br K') := fun K K' => le_ch (le_s1 (AHeap.le_refl _) hb)
  by_cases c11 : k0 < 11
  ·simp +contextual -dsimp -implicitDefEqProofs (maxSteps:=5000000) only [go_sem,reduceIte,reduceCtorEq,Nat.reduceEqDiff,Nat.reduceBEq,Nat.reduceAdd,Nat.reduceLeDiff,Nat.reduceMul,Nat.reduceLT,Int.reduceEq,Int.reduceLT,Int.reduceLE,c4,c6,e6,e7,e8,c11,n1,n2]
   refine k_pick 4 hK0 (nb _) (by omega) rfl fun a K1 _ _ _ hK1 => ?_
   simp +contextual -dsimp -implicitDefEqProofs (maxSteps:=5000000) only [go_sem,reduceIte,reduceCtorEq,Nat.reduceEqDiff,Nat.reduceBEq,Nat.reduceAdd,Nat.reduceLeDiff,Nat.reduceMul,Nat.reduceLT,Int.reduceEq,Int.reduceLT,Int.reduceLE,c4,c6,e6,e7,e8,c11,n1,n2]
   refine k_pick 2 hK1 (nb _) (by omega) rfl fun b K2 _ _ _ hK2 => ?_
   simp +contextual -dsimp -implicitDefEqProofs (maxSteps:=5000000) only [go_sem,reduceIte,reduceCtorEq,Nat.reduceEqDiff,Nat.reduceBEq,Nat.reduceAdd,Nat.reduceLeDiff,Nat.reduceMul,Nat.reduceLT,Int.reduceEq,Int.reduceLT,Int.reduceLE,c4,c6,e6,e7,e8,c11,n1,n2]
   refine draw_intro [1, 0, 0, 0, 0, 0, 0, 3, 2, 0] _ (by kernel_rfl) (le_set (nb _)) ?_
   simp +contextual -dsimp -implicitDefEqProofs (maxSteps:=5000000) only [go_sem,reduceIte,reduceCtorEq,Nat.reduceEqDiff,Nat.reduceBEq,Nat.reduceAdd,Nat.reduceLeDiff,Nat.reduceMul,Nat.reduceLT,Int.reduceEq,Int.reduceLT,Int.reduceLE,c4,c6,e6,e7,e8,c11,n1,n2,hwd]
   refine (hB _ br _ _ t cl lp hK2 (nb _) (by omega)).mono ?_
   rintro _ H' ⟨l2, cl2, K4, rfl, rfl, hK4, h3, h4⟩
   refine ⟨le_set (nb _), ?_⟩
   simp +contextual -dsimp -implicitDefEqProofs (maxSteps:=5000000) only [go_sem,reduceIte,reduceCtorEq,Nat.reduceEqDiff,Nat.reduceBEq,Nat.reduceAdd,Nat.reduceLeDiff,Nat.reduceMul,Nat.reduceLT,Int.reduceEq,Int.reduceLT,Int.reduceLE,c4,c6,e6,e7,e8,c11,n1,n2,hwd]
   refine app_lit (y := ⟨d, 11, a, b⟩) rfl h3 (by omega) fun x' H' hg => ?_
   obtain ⟨G, hg0, rfl, u0⟩ := grow_out hg (nb _)
   have hg0' := grow_in (K := K4) hg0 u0
   obtain ⟨G2, hg2, rfl, u2⟩ := grow_out hg0 hb
   have u2r : G2 br = none := by rw [set_none] at u0; exact u0.2.2
   simp +contextual -dsimp -implicitDefEqProofs (maxSteps:=5000000) only [go_sem,reduceIte,reduceCtorEq,Nat.reduceEqDiff,Nat.reduceBEq,Nat.reduceAdd,Nat.reduceLeDiff,Nat.reduceMul,Nat.reduceLT,Int.reduceEq,Int.reduceLT,Int.reduceLE,c4,c6,e6,e7,e8,c11,n1,n2,hwd]
   refine grow_frz (t := 8) hg0' fun cl3 => ?_
   refine retR_less (l := [.vsl ((⟨d, 11, a, b⟩ :: l2).map rLine) cl3]) (H' := F.set br K4) ?_ (le _ _) ⟨⟨d, 11, a, b⟩ :: l2, cl3, K4, rfl, rfl, rdk_mono hK4 (by omega), by simp, by simp; omega⟩
   simp only [resA,go_sem,reduceIte,reduceCtorEq,Nat.reduceEqDiff,Nat.reduceBEq,Nat.reduceAdd,Nat.reduceLeDiff,Nat.reduceMul,Nat.reduceLT,Int.reduceEq,Int.reduceLT,Int.reduceLE]
  by_cases e11 : k0 = 11
  ·simp +contextual -dsimp -implicitDefEqProofs (maxSteps:=5000000) only [go_sem,reduceIte,reduceCtorEq,Nat.reduceEqDiff,Nat.reduceBEq,Nat.reduceAdd,Nat.reduceLeDiff,Nat.reduceMul,Nat.reduceLT,Int.reduceEq,Int.reduceLT,Int.reduceLE,c4,c6,e6,e7,e8,c11,e11,n1,n2]
   refine k_one [2, 1, 3, 0] _ hK0 (nb _) (by omega) (by simp) rfl rfl fun a K2 _ hK2 => ?_
   simp +contextual -dsimp -implicitDefEqProofs (maxSteps:=5000000) only [go_sem,reduceIte,reduceCtorEq,Nat.reduceEqDiff,Nat.reduceBEq,Nat.reduceAdd,Nat.reduceLeDiff,Nat.reduceMul,Nat.reduceLT,Int.reduceEq,Int.reduceLT,Int.reduceLE,c4,c6,e6,e7,e8,c11,e11,n1,n2]
   refine draw_intro [1, 0, 0, 0, 0, 0, 3, 2, 0] _ (by kernel_rfl) (le_set (nb _)) ?_
   simp +contextual -dsimp -implicitDefEqProofs (maxSteps:=5000000) only [go_sem,reduceIte,reduceCtorEq,Nat.reduceEqDiff,Nat.reduceBEq,Nat.reduceAdd,Nat.reduceLeDiff,Nat.reduceMul,Nat.reduceLT,Int.reduceEq,Int.reduceLT,Int.reduceLE,c4,c6,e6,e7,e8,c11,n1,n2,e11,hwd]
   refine (hB _ br _ _ t cl true hK2 (nb _) (by omega)).mono ?_
   rintro _ H' ⟨l2, cl2, K4, rfl, rfl, hK4, h3, h4⟩
   refine ⟨le_set (nb _), ?_⟩
   simp +contextual -dsimp -implicitDefEqProofs (maxSteps:=5000000) only [go_sem,reduceIte,reduceCtorEq,Nat.reduceEqDiff,Nat.reduceBEq,Nat.reduceAdd,Nat.reduceLeDiff,Nat.reduceMul,Nat.reduceLT,Int.reduceEq,Int.reduceLT,Int.reduceLE,c4,c6,e6,e7,e8,c11,n1,n2,e11,hwd]
   refine app_lit (y := ⟨d, 12, a, 0⟩) rfl h3 (by omega) fun x' H' hg => ?_
   obtain ⟨G, hg0, rfl, u0⟩ := grow_out hg (nb _)
   have hg0' := grow_in (K := K4) hg0 u0
   obtain ⟨G2, hg2, rfl, u2⟩ := grow_out hg0 hb
   have u2r : G2 br = none := by rw [set_none] at u0; exact u0.2.2
   simp +contextual -dsimp -implicitDefEqProofs (maxSteps:=5000000) only [go_sem,reduceIte,reduceCtorEq,Nat.reduceEqDiff,Nat.reduceBEq,Nat.reduceAdd,Nat.reduceLeDiff,Nat.reduceMul,Nat.reduceLT,Int.reduceEq,Int.reduceLT,Int.reduceLE,c4,c6,e6,e7,e8,c11,n1,n2,e11,hwd]
   refine grow_frz (t := 8) hg0' fun cl3 => ?_
   refine retR_less (l := [.vsl ((⟨d, 12, a, 0⟩ :: l2).map rLine) cl3]) (H' := F.set br K4) ?_ (le _ _) ⟨⟨d, 12, a, 0⟩ :: l2, cl3, K4, rfl, rfl, rdk_mono hK4 (by omega), by simp, by simp; omega⟩
   simp only [resA,go_sem,reduceIte,reduceCtorEq,Nat.reduceEqDiff,Nat.reduceBEq,Nat.reduceAdd,Nat.reduceLeDiff,Nat.reduceMul,Nat.reduceLT,Int.reduceEq,Int.reduceLT,Int.reduceLE]
  ·simp +contextual -dsimp -implicitDefEqProofs (maxSteps:=5000000) only [go_sem,reduceIte,reduceCtorEq,Nat.reduceEqDiff,Nat.reduceBEq,Nat.reduceAdd,Nat.reduceLeDiff,Nat.reduceMul,Nat.reduceLT,Int.reduceEq,Int.reduceLT,Int.reduceLE,c4,c6,e6,e7,e8,c11,e11,n1,n2]
   refine (hT _ br _ _ t cl lp hK0 (nb _) (by omega)).mono ?_
   rintro _ H' ⟨l2, cl2, K4, rfl, rfl, hK4, h3, h4⟩
   simp +contextual -dsimp -implicitDefEqProofs (maxSteps:=5000000) only [go_sem,reduceIte,reduceCtorEq,Nat.reduceEqDiff,Nat.reduceBEq,Nat.reduceAdd,Nat.reduceLeDiff,Nat.reduceMul,Nat.reduceLT,Int.reduceEq,Int.reduceLT,Int.reduceLE,c4,c6,e6,e7,e8,c11,e11,n1,n2]
   refine retR_less (l := [.vsl (l2.map rLine) cl2]) (H' := F.set br K4) ?_ (le _ _) ⟨l2, cl2, K4, rfl, rfl, rdk_mono hK4 (by omega), h3, by omega⟩
   simp only [resA,go_sem,reduceIte,reduceCtorEq,Nat.reduceEqDiff,Nat.reduceBEq,Nat.reduceAdd,Nat.reduceLeDiff,Nat.reduceMul,Nat.reduceLT,Int.reduceEq,Int.reduceLT,Int.reduceLE]
end
section
open Go Go.Sim
set_option maxRecDepth 100000
set_option maxHeartbeats 4000000

theorem st3 : DrawnF 172 6 3 := c_aStatement (p1 := 0) (p2 := 0) (by omega) (by omega) (by omega) (by omega) (by omega) (fun h => absurd h (by omega)) (fun h => absurd h (by omega))
theorem blk3 : Drawn 135 19 3 := c_aBlock (by omega) st3
theorem try2 : Drawn 134 105 2 := c_aTry (p := 19) (by omega) (by omega) blk3.frz
theorem st2 : DrawnF 172 111 2 := c_aStatement (p1 := 19) (p2 := 105) (by omega) (by omega) (by omega) (by omega) (by omega) (fun _ => blk3.frz) (fun _ => try2.frz)
theorem blk2 : Drawn 135 334 2 := c_aBlock (by omega) st2
theorem try1 : Drawn 134 1680 1 := c_aTry (p := 334) (by omega) (by omega) blk2.frz
theorem st1 : DrawnF 172 1686 1 := c_aStatement (p1 := 334) (p2 := 1680) (by omega) (by omega) (by omega) (by omega) (by omega) (fun _ => blk2.frz) (fun _ => try1.frz)
theorem blk1 : Drawn 135 5059 1 := c_aBlock (by omega) st1
theorem try0 : Drawn 134 25305 0 := c_aTry (p := 5059) (by omega) (by omega) blk1.frz
theorem st0 : DrawnF 172 25311 0 := c_aStatement (p1 := 5059) (p2 := 25305) (by omega) (by omega) (by omega) (by omega) (by omega) (fun _ => blk1.frz) (fun _ => try0.frz)
theorem blk0 : Drawn 135 75934 0 := c_aBlock (by omega) st0
theorem grow_drop {α : Type} {f : α → List AV} {sz : Nat} {ty : TypeId} {F F0 G : AHeap} {x : AV} {l : List α} (hg : Grow f sz ty F0 G x l) (hle : F.le F0) : ∃ G', Grow f sz ty F G' x l ∧ G'.le G := by
 rcases hg with ⟨rfl, rfl, rfl⟩ | ⟨b, cl, hb, rfl, rfl⟩
 ·exact ⟨F, .inl ⟨rfl, rfl, rfl⟩, hle⟩
 ·have hb' : F b = none := by
   cases h : F b with
   | none => rfl
   | some k => rw [hle b k h] at hb; cases hb
  exact ⟨_, .inr ⟨b, cl, hb', rfl, rfl⟩, le_ch hle⟩
theorem le_none {F G : AHeap} {b : Nat} (h : F.le G) (hb : G b = none) : F b = none := by
 cases hq : F b with
 | none => rfl
 | some k => rw [h b k hq] at hb; cases hb
theorem c_goodProgram (F : AHeap) (br n : Nat) (K : ABlk) (t : List Class) (cl : Bool) (h : RdK n K) (hF : F br = none) (hn : n < 500000000) : ACalls Tryz.prog 90 [.ptr br 2 0 0, aTree t cl] (F.set br K) fun r H' =>
  ∃ (l : List Line) (G : AHeap) (K' : ABlk), Grow rLine 4 41 F G r l ∧ G br = none ∧ H' = G.set br K' ∧ RdK (n + 900000) K' ∧ 1 ≤ l.length ∧ l.length ≤ 24 := by
 refine acalls_of1 Tryz.func90 rfl (by kernel_rfl) rfl rfl (awp_sound (fz := fun _ => []) (im := fun s => s == 3) mixed _ _ _ _ (by kernel_rfl) ?_)
 simp +contextual -dsimp -implicitDefEqProofs (maxSteps:=5000000) only [go_sem,reduceIte,reduceCtorEq,Nat.reduceEqDiff,Nat.reduceBEq,Nat.reduceAdd,Nat.reduceLeDiff,Nat.reduceMul,Nat.reduceLT,Int.reduceEq,Int.reduceLT,Int.reduceLE]
 refine aloop mixed (fz := fun _ => []) (im := fun s => s == 3) (by kernel_rfl) (fun m tm H' => ∃ (F0 : AHeap) (K : ABlk) (i : Nat), m = 4 - i ∧ i ≤ 4 ∧ F.le F0 ∧ F0 br = none ∧ RdK (n + i * 180000) K ∧ H' = F0.set br K ∧ tm 0 = .ptr br 2 0 0 ∧ tm 3 = .vptr [[.vsl (t.map rClass) cl]] 0 0 ∧ tm 5 = I i) 4 ⟨F, K, 0, rfl, by omega, AHeap.le_refl _, hF, by simpa using h, rfl, ?_⟩ ?_
 ·simp +contextual -dsimp -implicitDefEqProofs (maxSteps:=5000000) only [go_sem,reduceIte,reduceCtorEq,Nat.reduceEqDiff,Nat.reduceBEq,Nat.reduceAdd,Nat.reduceLeDiff,Nat.reduceMul,Nat.reduceLT,Int.reduceEq,Int.reduceLT,Int.reduceLE]
 ·rintro m tm H' ⟨F0, K, i, rfl, hi, hle, fr, hK, rfl, t0, t3, t5⟩
  by_cases hlt : (i : Int) < 4
  ·have hi4 : i < 4 := by omega
   simp +contextual -dsimp -implicitDefEqProofs (maxSteps:=5000000) only [go_sem,reduceIte,reduceCtorEq,Nat.reduceEqDiff,Nat.reduceBEq,Nat.reduceAdd,Nat.reduceLeDiff,Nat.reduceMul,Nat.reduceLT,Int.reduceEq,Int.reduceLT,Int.reduceLE,t0,t3,t5,hlt]
   refine (try0 F0 br _ K t cl false hK fr (by omega)).mono ?_
   rintro x H' ⟨l, G, K1, hg, fr1, rfl, hK1, h1, h2⟩
   simp +contextual -dsimp -implicitDefEqProofs (maxSteps:=5000000) only [go_sem,reduceIte,reduceCtorEq,Nat.reduceEqDiff,Nat.reduceBEq,Nat.reduceAdd,Nat.reduceLeDiff,Nat.reduceMul,Nat.reduceLT,Int.reduceEq,Int.reduceLT,Int.reduceLE,t0,t3,t5,hlt]
   refine k_pick 3 hK1 fr1 (by omega) rfl fun v K2 _ _ _ hK2 => ?_
   simp +contextual -dsimp -implicitDefEqProofs (maxSteps:=5000000) only [go_sem,reduceIte,reduceCtorEq,Nat.reduceEqDiff,Nat.reduceBEq,Nat.reduceAdd,Nat.reduceLeDiff,Nat.reduceMul,Nat.reduceLT,Int.reduceEq,Int.reduceLT,Int.reduceLE,t0,t3,t5,hlt]
   refine ⟨fun _ => ?_, fun _ => ?_⟩
   ·refine (blk0.frz G br _ K2 t cl false hK2 fr1 (by omega)).mono ?_
    rintro _ H' ⟨l2, cl2, K3, rfl, rfl, hK3, h3, h4⟩
    simp +contextual -dsimp -implicitDefEqProofs (maxSteps:=5000000) only [go_sem,reduceIte,reduceCtorEq,Nat.reduceEqDiff,Nat.reduceBEq,Nat.reduceAdd,Nat.reduceLeDiff,Nat.reduceMul,Nat.reduceLT,Int.reduceEq,Int.reduceLT,Int.reduceLE,t0,t3,t5,hlt]
    refine app_lines (m := l2) (grow_in hg fr1) (by omega) rfl fun x' H' hg' => ?_
    obtain ⟨G1, hg1, rfl, u1⟩ := grow_out hg' (grow_none hg fr1)
    simp +contextual -dsimp -implicitDefEqProofs (maxSteps:=5000000) only [go_sem,reduceIte,reduceCtorEq,Nat.reduceEqDiff,Nat.reduceBEq,Nat.reduceAdd,Nat.reduceLeDiff,Nat.reduceMul,Nat.reduceLT,Int.reduceEq,Int.reduceLT,Int.reduceLE,t0,t3,t5,hlt]
    refine k_pick 4 hK3 u1 (by omega) rfl fun w K5 _ _ _ hK5 => ?_
    simp +contextual -dsimp -implicitDefEqProofs (maxSteps:=5000000) only [go_sem,reduceIte,reduceCtorEq,Nat.reduceEqDiff,Nat.reduceBEq,Nat.reduceAdd,Nat.reduceLeDiff,Nat.reduceMul,Nat.reduceLT,Int.reduceEq,Int.reduceLT,Int.reduceLE,t0,t3,t5,hlt]
    refine ⟨fun _ => ?_, fun _ => ?_⟩
    ·refine (blk0 _ br _ _ t cl false hK5 u1 (by omega)).mono ?_
     rintro x6 H' ⟨l6, G6, K6, hg6, fr6, rfl, hK6, h5, h6⟩
     simp +contextual -dsimp -implicitDefEqProofs (maxSteps:=5000000) only [go_sem,reduceIte,reduceCtorEq,Nat.reduceEqDiff,Nat.reduceBEq,Nat.reduceAdd,Nat.reduceLeDiff,Nat.reduceMul,Nat.reduceLT,Int.reduceEq,Int.reduceLT,Int.reduceLE,t0,t3,t5,hlt]
     have hlen := grow_len te26 hg6
     simp +contextual -dsimp -implicitDefEqProofs (maxSteps:=5000000) only [go_sem,reduceIte,reduceCtorEq,Nat.reduceEqDiff,Nat.reduceBEq,Nat.reduceAdd,Nat.reduceLeDiff,Nat.reduceMul,Nat.reduceLT,Int.reduceEq,Int.reduceLT,Int.reduceLE,t0,t3,t5,hlt,hlen]
     refine ⟨fun h24 => ?_, fun h24 => ?_⟩
     ·obtain ⟨G', hg', le'⟩ := grow_drop hg6 (AHeap.le_trans hle (grow_le hg1))
      refine retR_less (l := [x6]) (H' := G'.set br _) ?_ (le_ch le') ⟨_, G', _, hg', le_none le' fr6, rfl, rdk_mono hK6 (by omega), by first | omega | (simp; omega), by first | omega | (simp at h24 ⊢; omega)⟩
      simp only [resA,go_sem,reduceIte,reduceCtorEq,Nat.reduceEqDiff,Nat.reduceBEq,Nat.reduceAdd,Nat.reduceLeDiff,Nat.reduceMul,Nat.reduceLT,Int.reduceEq,Int.reduceLT,Int.reduceLE]
     ·exact ⟨_, by omega, _, _, i + 1, rfl, by omega, AHeap.le_trans (AHeap.le_trans hle (grow_le hg1)) (grow_le hg6), fr6, rdk_mono hK6 (by omega), rfl, I_wrap (by omega) (by omega) (by omega)⟩
    ·skip
     have hlen := grow_len te26 hg1
     simp +contextual -dsimp -implicitDefEqProofs (maxSteps:=5000000) only [go_sem,reduceIte,reduceCtorEq,Nat.reduceEqDiff,Nat.reduceBEq,Nat.reduceAdd,Nat.reduceLeDiff,Nat.reduceMul,Nat.reduceLT,Int.reduceEq,Int.reduceLT,Int.reduceLE,t0,t3,t5,hlt,hlen]
     refine ⟨fun h24 => ?_, fun h24 => ?_⟩
     ·obtain ⟨G', hg', le'⟩ := grow_drop hg1 hle
      refine retR_less (l := [x']) (H' := G'.set br _) ?_ (le_ch le') ⟨_, G', _, hg', le_none le' u1, rfl, rdk_mono hK5 (by omega), by first | omega | (simp; omega), by first | omega | (simp at h24 ⊢; omega)⟩
      simp only [resA,go_sem,reduceIte,reduceCtorEq,Nat.reduceEqDiff,Nat.reduceBEq,Nat.reduceAdd,Nat.reduceLeDiff,Nat.reduceMul,Nat.reduceLT,Int.reduceEq,Int.reduceLT,Int.reduceLE]
     ·exact ⟨_, by omega, _, _, i + 1, rfl, by omega, AHeap.le_trans hle (grow_le hg1), u1, rdk_mono hK5 (by omega), rfl, I_wrap (by omega) (by omega) (by omega)⟩
   ·skip
    refine k_pick 4 hK2 fr1 (by omega) rfl fun w K5 _ _ _ hK5 => ?_
    simp +contextual -dsimp -implicitDefEqProofs (maxSteps:=5000000) only [go_sem,reduceIte,reduceCtorEq,Nat.reduceEqDiff,Nat.reduceBEq,Nat.reduceAdd,Nat.reduceLeDiff,Nat.reduceMul,Nat.reduceLT,Int.reduceEq,Int.reduceLT,Int.reduceLE,t0,t3,t5,hlt]
    refine ⟨fun _ => ?_, fun _ => ?_⟩
    ·refine (blk0 _ br _ _ t cl false hK5 fr1 (by omega)).mono ?_
     rintro x6 H' ⟨l6, G6, K6, hg6, fr6, rfl, hK6, h5, h6⟩
     simp +contextual -dsimp -implicitDefEqProofs (maxSteps:=5000000) only [go_sem,reduceIte,reduceCtorEq,Nat.reduceEqDiff,Nat.reduceBEq,Nat.reduceAdd,Nat.reduceLeDiff,Nat.reduceMul,Nat.reduceLT,Int.reduceEq,Int.reduceLT,Int.reduceLE,t0,t3,t5,hlt]
     have hlen := grow_len te26 hg6
     simp +contextual -dsimp -implicitDefEqProofs (maxSteps:=5000000) only [go_sem,reduceIte,reduceCtorEq,Nat.reduceEqDiff,Nat.reduceBEq,Nat.reduceAdd,Nat.reduceLeDiff,Nat.reduceMul,Nat.reduceLT,Int.reduceEq,Int.reduceLT,Int.reduceLE,t0,t3,t5,hlt,hlen]
     refine ⟨fun h24 => ?_, fun h24 => ?_⟩
     ·obtain ⟨G', hg', le'⟩ := grow_drop hg6 (AHeap.le_trans hle (grow_le hg))
      refine retR_less (l := [x6]) (H' := G'.set br _) ?_ (le_ch le') ⟨_, G', _, hg', le_none le' fr6, rfl, rdk_mono hK6 (by omega), by first | omega | (simp; omega), by first | omega | (simp at h24 ⊢; omega)⟩
      simp only [resA,go_sem,reduceIte,reduceCtorEq,Nat.reduceEqDiff,Nat.reduceBEq,Nat.reduceAdd,Nat.reduceLeDiff,Nat.reduceMul,Nat.reduceLT,Int.reduceEq,Int.reduceLT,Int.reduceLE]
     ·exact ⟨_, by omega, _, _, i + 1, rfl, by omega, AHeap.le_trans (AHeap.le_trans hle (grow_le hg)) (grow_le hg6), fr6, rdk_mono hK6 (by omega), rfl, I_wrap (by omega) (by omega) (by omega)⟩
    ·skip
     have hlen := grow_len te26 hg
     simp +contextual -dsimp -implicitDefEqProofs (maxSteps:=5000000) only [go_sem,reduceIte,reduceCtorEq,Nat.reduceEqDiff,Nat.reduceBEq,Nat.reduceAdd,Nat.reduceLeDiff,Nat.reduceMul,Nat.reduceLT,Int.reduceEq,Int.reduceLT,Int.reduceLE,t0,t3,t5,hlt,hlen]
     refine ⟨fun h24 => ?_, fun h24 => ?_⟩
     ·obtain ⟨G', hg', le'⟩ := grow_drop hg hle
      refine retR_less (l := [x]) (H' := G'.set br _) ?_ (le_ch le') ⟨_, G', _, hg', le_none le' fr1, rfl, rdk_mono hK5 (by omega), by first | omega | (simp; omega), by first | omega | (simp at h24 ⊢; omega)⟩
      simp only [resA,go_sem,reduceIte,reduceCtorEq,Nat.reduceEqDiff,Nat.reduceBEq,Nat.reduceAdd,Nat.reduceLeDiff,Nat.reduceMul,Nat.reduceLT,Int.reduceEq,Int.reduceLT,Int.reduceLE]
     ·exact ⟨_, by omega, _, _, i + 1, rfl, by omega, AHeap.le_trans hle (grow_le hg), fr1, rdk_mono hK5 (by omega), rfl, I_wrap (by omega) (by omega) (by omega)⟩
  ·simp +contextual -dsimp -implicitDefEqProofs (maxSteps:=5000000) only [go_sem,reduceIte,reduceCtorEq,Nat.reduceEqDiff,Nat.reduceBEq,Nat.reduceAdd,Nat.reduceLeDiff,Nat.reduceMul,Nat.reduceLT,Int.reduceEq,Int.reduceLT,Int.reduceLE,t0,t3,t5,hlt]
   rintro b36 ⟨w1, w2, hb36⟩
   rw [br_out w1]
   have hb : F b36 = none := le_none hle hb36
   refine retR_less (l := [.sl b36 4 0 4 true]) (H' := (F.set b36 ⟨4, 41, ([⟨0, 7, 0, 0⟩, ⟨1, 2, 0, 1⟩, ⟨0, 10, 0, 0⟩, ⟨1, 1, 1, 0⟩] : List Line).map rLine⟩).set br K) ?_ (le_ch (le_ch hle)) ⟨_, _, K, .inr ⟨b36, true, hb, rfl, rfl⟩, by rw [set_other w2]; exact hF, rfl, rdk_mono hK (by omega), by simp, by simp⟩
   simp only [resA,go_sem,reduceIte,reduceCtorEq,Nat.reduceEqDiff,Nat.reduceBEq,Nat.reduceAdd,Nat.reduceLeDiff,Nat.reduceMul,Nat.reduceLT,Int.reduceEq,Int.reduceLT,Int.reduceLE]
end
section
open Go Go.Sim
set_option maxRecDepth 100000
set_option maxHeartbeats 4000000

theorem c_someProgram0 (F : AHeap) (br n : Nat) (K : ABlk) (h : RdK n K) (hF : F br = none) (hn : n < 400000000) : ACalls Tryz.prog 45 [.ptr br 2 0 0] (F.set br K) fun r H' =>
  ∃ t cl x, ∃ l : List Line, ∃ cl' G K', r = .tup [aTree t cl, x] ∧ Fz (AHeap.set G br K') (F.set br K') x (.vsl (l.map rLine) cl') ∧ F.le G ∧ H' = G.set br K' ∧ RdK (n + 1000000) K' ∧ t.length ≤ 8 ∧ shortNames t ∧ l.length ≤ 24 := by
 refine acalls_of1 Tryz.func45 rfl (by kernel_rfl) rfl rfl (awp_sound (fz := fun r => if r = 13 then [5] else []) (im := fun s => s == 15 || s == 30 || s == 39 || s == 48) mixed _ _ _ _ (by kernel_rfl) ?_)
 simp +contextual -dsimp -implicitDefEqProofs (maxSteps:=5000000) only [go_sem,reduceIte,reduceCtorEq,Nat.reduceEqDiff,Nat.reduceBEq,Nat.reduceAdd,Nat.reduceLeDiff,Nat.reduceMul,Nat.reduceLT,Int.reduceEq,Int.reduceLT,Int.reduceLE]
 rintro b2 ⟨p1, p2, hb2⟩
 rw [br_out p1]
 have n2 : ∀ K4, (F.set b2 K4) br = none := fun K4 => by rw [set_other p2]; exact hF
 refine (c_someTreeF _ br n K h (n2 _) (by omega)).mono ?_
 rintro _ _ ⟨t, cl, K1, rfl, rfl, hK1, ht8, hs⟩
 simp +contextual -dsimp -implicitDefEqProofs (maxSteps:=5000000) only [go_sem,reduceIte,reduceCtorEq,Nat.reduceEqDiff,Nat.reduceBEq,Nat.reduceAdd,Nat.reduceLeDiff,Nat.reduceMul,Nat.reduceLT,Int.reduceEq,Int.reduceLT,Int.reduceLE,p1,p2]
 rintro b4 ⟨q1, q2, q3, q4, hb4⟩
 simp only [br_out q1]
 have n4 : ∀ K4 K5, ((F.set b2 K4).set b4 K5) br = none := fun K4 K5 => by rw [set_other q2]; exact n2 _
 refine ⟨fun h0 => ?_, fun h0 => ?_⟩
 ·refine retR_less (l := [aTree t cl, .vsl [rLine ⟨0, 0, 0, 0⟩] true]) (H' := F.set br K1) ?_ (le_ch (le_s1 (le_s1 (AHeap.le_refl _) hb2) hb4)) ⟨t, cl, _, [⟨0, 0, 0, 0⟩], true, F, K1, rfl, .same _, AHeap.le_refl _, rfl, rdk_mono hK1 (by omega), ht8, hs, by simp⟩
  simp only [resA,go_sem,reduceIte,reduceCtorEq,Nat.reduceEqDiff,Nat.reduceBEq,Nat.reduceAdd,Nat.reduceLeDiff,Nat.reduceMul,Nat.reduceLT,Int.reduceEq,Int.reduceLT,Int.reduceLE,p1,p2,q1,q2,q3,q4]
 ·refine (c_goodProgram _ br _ K1 t cl hK1 (n4 _ _) (by omega)).mono ?_
  rintro _ _ ⟨l, G0, K2, hg0, hr0, rfl, hK2, h1, h24⟩
  rcases hg0 with ⟨e, _, _⟩ | ⟨bx, clx, hbx, rfl, rfl⟩
  ·rw [e] at h1; simp at h1
  have hbx' := hbx
  have hr' := hr0
  rw [set_none, set_none] at hbx'
  rw [set_none] at hr'
  obtain ⟨s1, s2, s3, s4, hbF⟩ := hbx'
  obtain ⟨s5, s6, _⟩ := hr'
  have n6 : ∀ (A C D : ABlk), (((F.set b2 A).set b4 C).set bx D) br = none := fun A C D => by rw [set_other s5]; exact n4 _ _
  have fin : ∀ (l' : List Line) (off len : Nat) (c' : Bool) (K3 : ABlk) (tm : Tm), off + len ≤ l'.length → len ≤ 24 → RdK (n + 1000000) K3 → tm 2 = .ptr b2 1 0 0 → tm 3 = .sl bx 4 off len c' → retR Tryz.prog [.cell 2 25, .tmp 3] (fun r H' => ∃ t cl x, ∃ l : List Line, ∃ cl' G K', r = .tup [aTree t cl, x] ∧ Fz (AHeap.set G br K') (F.set br K') x (.vsl (l.map rLine) cl') ∧ F.le G ∧ H' = G.set br K' ∧ RdK (n + 1000000) K' ∧ t.length ≤ 8 ∧ shortNames t ∧ l.length ≤ 24) tm
    ((((F.set b2 ⟨1, 25, [[.vsl (t.map rClass) cl]]⟩).set b4 ⟨1, 25, [[.vsl (t.map rClass) cl]]⟩).set bx ⟨4, 41, l'.map rLine⟩).set br K3) := by
   intro l' off len c' K3 tm hol hl24 hK3 h2 h3
   have hz := Fz.sl (H := (F.set bx ⟨4, 41, l'.map rLine⟩).set br K3) (K := F.set br K3) (b := bx) (sz := 4) (off := off) (len := len) (cl := c') (k := ⟨4, 41, l'.map rLine⟩) (by rw [set_other s6, AHeap.set_self]) rfl (by simpa using hol) (by rw [set_other s6]; exact hbF)
   have he : ((l'.map rLine).drop off).take len = ((l'.drop off).take len).map rLine := by rw [List.map_take, List.map_drop]
   simp only [he] at hz
   refine retR_less (l := [aTree t cl, .sl bx 4 off len c']) (H' := (F.set bx ⟨4, 41, l'.map rLine⟩).set br K3) ?_ (le_ch (le_ch (le_s1 (le_s1 (AHeap.le_refl _) hb2) hb4))) ⟨t, cl, _, (l'.drop off).take len, c', _, K3, rfl, hz, le_s1 (AHeap.le_refl _) hbF, rfl, hK3, ht8, hs, by simp; omega⟩
   simp only [resA,go_sem,reduceIte,reduceCtorEq,Nat.reduceEqDiff,Nat.reduceBEq,Nat.reduceAdd,Nat.reduceLeDiff,Nat.reduceMul,Nat.reduceLT,Int.reduceEq,Int.reduceLT,Int.reduceLE,p1,p2,q1,q2,q3,q4,s1,s2,s3,s4,s5,s6,h2,h3]
  have finV : ∀ (l' : List Line) (c' : Bool) (K3 : ABlk) (tm : Tm), l'.length ≤ 24 → RdK (n + 1000000) K3 → tm 2 = .ptr b2 1 0 0 → tm 3 = .vsl (l'.map rLine) c' → retR Tryz.prog [.cell 2 25, .tmp 3] (fun r H' => ∃ t cl x, ∃ l : List Line, ∃ cl' G K', r = .tup [aTree t cl, x] ∧ Fz (AHeap.set G br K') (F.set br K') x (.vsl (l.map rLine) cl') ∧ F.le G ∧ H' = G.set br K' ∧ RdK (n + 1000000) K' ∧ t.length ≤ 8 ∧ shortNames t ∧ l.length ≤ 24) tm
    (((F.set b2 ⟨1, 25, [[.vsl (t.map rClass) cl]]⟩).set b4 ⟨1, 25, [[.vsl (t.map rClass) cl]]⟩).set br K3) := by
   intro l' c' K3 tm hl24 hK3 h2 h3
   refine retR_less (l := [aTree t cl, .vsl (l'.map rLine) c']) (H' := F.set br K3) ?_ (le_ch (le_s1 (le_s1 (AHeap.le_refl _) hb2) hb4)) ⟨t, cl, _, l', c', F, K3, rfl, .same _, AHeap.le_refl _, rfl, hK3, ht8, hs, hl24⟩
   simp only [resA,go_sem,reduceIte,reduceCtorEq,Nat.reduceEqDiff,Nat.reduceBEq,Nat.reduceAdd,Nat.reduceLeDiff,Nat.reduceMul,Nat.reduceLT,Int.reduceEq,Int.reduceLT,Int.reduceLE,p1,p2,q1,q2,q3,q4,h2,h3]
  have htk : List.take l.length (l.map rLine) = l.map rLine := List.take_of_length_le (by simp)
  have delx : ∀ (G : AHeap) (L K : ABlk), G bx = none → ((G.set bx L).set br K).del bx = G.set br K := fun G L K hG => by rw [set_comm s6, set_del (by rw [set_other s6]; exact hG)]
  simp +contextual -dsimp -implicitDefEqProofs (maxSteps:=5000000) only [go_sem,reduceIte,reduceCtorEq,Nat.reduceEqDiff,Nat.reduceBEq,Nat.reduceAdd,Nat.reduceLeDiff,Nat.reduceMul,Nat.reduceLT,Int.reduceEq,Int.reduceLT,Int.reduceLE,p1,p2,q1,q2,q3,q4,s1,s2,s3,s4,s5,s6]
  refine k_pick l.length hK2 (n6 _ _ _) (by omega) rfl fun v K3 v0 v1 _ hK3 => ?_
  have vl := v1 (by omega)
  have vn : v.toNat < l.length := by omega
  simp +contextual -dsimp -implicitDefEqProofs (maxSteps:=5000000) only [go_sem,reduceIte,reduceCtorEq,Nat.reduceEqDiff,Nat.reduceBEq,Nat.reduceAdd,Nat.reduceLeDiff,Nat.reduceMul,Nat.reduceLT,Int.reduceEq,Int.reduceLT,Int.reduceLE,p1,p2,q1,q2,q3,q4,s1,s2,s3,s4,s5,s6]
  refine k_pick 24 hK3 (n6 _ _ _) (by omega) rfl fun z K4 _ _ _ hK4 => ?_
  by_cases c0 : z = 0
  ·simp +contextual -dsimp -implicitDefEqProofs (maxSteps:=5000000) only [go_sem,reduceIte,reduceCtorEq,Nat.reduceEqDiff,Nat.reduceBEq,Nat.reduceAdd,Nat.reduceLeDiff,Nat.reduceMul,Nat.reduceLT,Int.reduceEq,Int.reduceLT,Int.reduceLE,c0,p1,p2,q1,q2,q3,q4,s1,s2,s3,s4,s5,s6]
   refine k_one [-1, 6, 0, 1] _ hK4 (n6 _ _ _) (by omega) (by simp) rfl rfl fun s K5 _ hK5 => ?_
   simp +contextual -dsimp -implicitDefEqProofs (maxSteps:=5000000) only [go_sem,reduceIte,reduceCtorEq,Nat.reduceEqDiff,Nat.reduceBEq,Nat.reduceAdd,Nat.reduceLeDiff,Nat.reduceMul,Nat.reduceLT,Int.reduceEq,Int.reduceLT,Int.reduceLE,c0,p1,p2,q1,q2,q3,q4,s1,s2,s3,s4,s5,s6,v0,vl,vn]
   rw [wrO_y (y := { l.getD v.toNat default with depth := s }) vn rfl]
   simp +contextual -dsimp -implicitDefEqProofs (maxSteps:=5000000) only [go_sem,reduceIte,reduceCtorEq,Nat.reduceEqDiff,Nat.reduceBEq,Nat.reduceAdd,Nat.reduceLeDiff,Nat.reduceMul,Nat.reduceLT,Int.reduceEq,Int.reduceLT,Int.reduceLE,c0,p1,p2,q1,q2,q3,q4,s1,s2,s3,s4,s5,s6,v0,vl,vn]
   refine fin (l.set v.toNat { l.getD v.toNat default with depth := s }) 0 l.length clx K5 _ (by simp) h24 (rdk_mono hK5 (by omega)) rfl rfl
  by_cases c1 : z = 1
  ·simp +contextual -dsimp -implicitDefEqProofs (maxSteps:=5000000) only [go_sem,reduceIte,reduceCtorEq,Nat.reduceEqDiff,Nat.reduceBEq,Nat.reduceAdd,Nat.reduceLeDiff,Nat.reduceMul,Nat.reduceLT,Int.reduceEq,Int.reduceLT,Int.reduceLE,c0,c1,p1,p2,q1,q2,q3,q4,s1,s2,s3,s4,s5,s6]
   refine k_one [-1, 13, 5, 9, 0] _ hK4 (n6 _ _ _) (by omega) (by simp) rfl rfl fun s K5 _ hK5 => ?_
   simp +contextual -dsimp -implicitDefEqProofs (maxSteps:=5000000) only [go_sem,reduceIte,reduceCtorEq,Nat.reduceEqDiff,Nat.reduceBEq,Nat.reduceAdd,Nat.reduceLeDiff,Nat.reduceMul,Nat.reduceLT,Int.reduceEq,Int.reduceLT,Int.reduceLE,c0,c1,p1,p2,q1,q2,q3,q4,s1,s2,s3,s4,s5,s6,v0,vl,vn]
   rw [wrO_y (y := { l.getD v.toNat default with kind := s }) vn rfl]
   simp +contextual -dsimp -implicitDefEqProofs (maxSteps:=5000000) only [go_sem,reduceIte,reduceCtorEq,Nat.reduceEqDiff,Nat.reduceBEq,Nat.reduceAdd,Nat.reduceLeDiff,Nat.reduceMul,Nat.reduceLT,Int.reduceEq,Int.reduceLT,Int.reduceLE,c0,c1,p1,p2,q1,q2,q3,q4,s1,s2,s3,s4,s5,s6,v0,vl,vn]
   refine fin (l.set v.toNat { l.getD v.toNat default with kind := s }) 0 l.length clx K5 _ (by simp) h24 (rdk_mono hK5 (by omega)) rfl rfl
  by_cases c2 : z = 2
  ·simp +contextual -dsimp -implicitDefEqProofs (maxSteps:=5000000) only [go_sem,reduceIte,reduceCtorEq,Nat.reduceEqDiff,Nat.reduceBEq,Nat.reduceAdd,Nat.reduceLeDiff,Nat.reduceMul,Nat.reduceLT,Int.reduceEq,Int.reduceLT,Int.reduceLE,c0,c1,c2,p1,p2,q1,q2,q3,q4,s1,s2,s3,s4,s5,s6]
   refine k_one [-1, 100, 8] _ hK4 (n6 _ _ _) (by omega) (by simp) rfl rfl fun s K5 _ hK5 => ?_
   simp +contextual -dsimp -implicitDefEqProofs (maxSteps:=5000000) only [go_sem,reduceIte,reduceCtorEq,Nat.reduceEqDiff,Nat.reduceBEq,Nat.reduceAdd,Nat.reduceLeDiff,Nat.reduceMul,Nat.reduceLT,Int.reduceEq,Int.reduceLT,Int.reduceLE,c0,c1,c2,p1,p2,q1,q2,q3,q4,s1,s2,s3,s4,s5,s6,v0,vl,vn]
   rw [wrO_y (y := { l.getD v.toNat default with a := s }) vn rfl]
   simp +contextual -dsimp -implicitDefEqProofs (maxSteps:=5000000) only [go_sem,reduceIte,reduceCtorEq,Nat.reduceEqDiff,Nat.reduceBEq,Nat.reduceAdd,Nat.reduceLeDiff,Nat.reduceMul,Nat.reduceLT,Int.reduceEq,Int.reduceLT,Int.reduceLE,c0,c1,c2,p1,p2,q1,q2,q3,q4,s1,s2,s3,s4,s5,s6,v0,vl,vn]
   refine fin (l.set v.toNat { l.getD v.toNat default with a := s }) 0 l.length clx K5 _ (by simp) h24 (rdk_mono hK5 (by omega)) rfl rfl
  by_cases c3 : z = 3
  ·simp +contextual -dsimp -implicitDefEqProofs (maxSteps:=5000000) only [go_sem,reduceIte,reduceCtorEq,Nat.reduceEqDiff,Nat.reduceBEq,Nat.reduceAdd,Nat.reduceLeDiff,Nat.reduceMul,Nat.reduceLT,Int.reduceEq,Int.reduceLT,Int.reduceLE,c0,c1,c2,c3,p1,p2,q1,q2,q3,q4,s1,s2,s3,s4,s5,s6]
   refine ⟨Nat.le_refl _, ?_⟩
   have h1i : (1 : Int) ≤ l.length := by omega
   rw [delx _ _ _ hbx, htk]
   simp +contextual -dsimp -implicitDefEqProofs (maxSteps:=5000000) only [go_sem,reduceIte,reduceCtorEq,Nat.reduceEqDiff,Nat.reduceBEq,Nat.reduceAdd,Nat.reduceLeDiff,Nat.reduceMul,Nat.reduceLT,Int.reduceEq,Int.reduceLT,Int.reduceLE,h1i,c0,c1,c2,c3,p1,p2,q1,q2,q3,q4,s1,s2,s3,s4,s5,s6]
   refine finV (l.drop 1) clx K4 _ (by simp; omega) (rdk_mono hK4 (by omega)) rfl rfl
  ·simp +contextual -dsimp -implicitDefEqProofs (maxSteps:=5000000) only [go_sem,reduceIte,reduceCtorEq,Nat.reduceEqDiff,Nat.reduceBEq,Nat.reduceAdd,Nat.reduceLeDiff,Nat.reduceMul,Nat.reduceLT,Int.reduceEq,Int.reduceLT,Int.reduceLE,c0,c1,c2,c3,p1,p2,q1,q2,q3,q4,s1,s2,s3,s4,s5,s6]
   refine ⟨Nat.le_refl _, ?_⟩
   rw [delx _ _ _ hbx]
   simp +contextual -dsimp -implicitDefEqProofs (maxSteps:=5000000) only [go_sem,reduceIte,reduceCtorEq,Nat.reduceEqDiff,Nat.reduceBEq,Nat.reduceAdd,Nat.reduceLeDiff,Nat.reduceMul,Nat.reduceLT,Int.reduceEq,Int.reduceLT,Int.reduceLE,htk,c0,c1,c2,c3,p1,p2,q1,q2,q3,q4,s1,s2,s3,s4,s5,s6]
   refine finV l clx K4 _ h24 (rdk_mono hK4 (by omega)) rfl rfl
theorem c_someProgram (F : AHeap) (br n : Nat) (K : ABlk) (h : RdK n K) (hF : F br = none) (hn : n < 400000000) : ACalls Tryz.prog 45 [.ptr br 2 0 0] (F.set br K) fun r H' =>
  ∃ t cl, ∃ l : List Line, ∃ cl' K', r = .tup [aTree t cl, .vsl (l.map rLine) cl'] ∧ H' = F.set br K' ∧ RdK (n + 1000000) K' ∧ t.length ≤ 8 ∧ shortNames t ∧ l.length ≤ 24 := by
 refine acalls_fz (c_someProgram0 F br n K h hF hn) ?_
 rintro _ _ ⟨t, cl, x, l, cl', G, K', rfl, hz, hle, rfl, hK, ht, hs, hl⟩
 exact ⟨_, F.set br K', le_ch hle, fz_tup (.cons (.same _) (.cons hz .nil)), t, cl, l, cl', K', rfl, rfl, hK, ht, hs, hl⟩
end
section
open Go Go.Sim
set_option maxRecDepth 100000
set_option maxHeartbeats 4000000

def stOf (t : List Class) (R : Res) : Sta × Bool :=
 if validT t = true then
  (if R.ed = 0 then (⟨false, 0, 0⟩, true)
   else if R.ed = 2 ∧ (validH t R.heap && inR R.val 0 (R.heap.length - 1)) = true then (⟨true, (R.heap.getD R.val.toNat default).cls, (R.heap.getD R.val.toNat default).code⟩, true)
   else (⟨false, 0, 0⟩, false))
 else (⟨false, 0, 0⟩, false)
theorem st_out {t : List Class} {r : En × RS} (ht : validT t = true) (ho : RunOut t r (resOf r)) (h2 : r.1.ed = 2) : stOf t (resOf r) = (⟨true, clsOf r.2 r.1.val, (r.2.fs.getD r.1.val.toNat default).code⟩, true) ∧ hasF t (clsOf r.2 r.1.val) = true := by
 have e2 : (resOf r).ed = 2 := by rw [res_ed, h2]
 rw [stOf, if_pos ht, if_neg (by rw [e2]; decide), if_pos ⟨e2, by rw [ho.valid, Bool.true_and]; exact inR_len.2 ⟨ho.low, ho.high⟩⟩, ho.cls, ho.code]
 refine ⟨rfl, ?_⟩
 have hl := ho.low
 have hh := ho.high
 have hc := validH_cls ho.valid (resOf r).val.toNat (by omega)
 rw [ho.cls] at hc
 simp only [hasF,inR,Bool.and_eq_true,decide_eq_true_eq]
 omega
theorem st_else {t : List Class} {R : Res} (ht : validT t = true) (h2 : R.ed ≠ 2) : stOf t R = (⟨false, 0, 0⟩, decide (R.ed = 0)) := by
 rw [stOf, if_pos ht]
 by_cases h0 : R.ed = 0
 ·rw [if_pos h0, decide_eq_true h0]
 ·rw [if_neg h0, if_neg (fun h => h2 h.1), decide_eq_false h0]
theorem heap_small {t : List Class} {p : List Line} (hv : ValidP t p) : (resOf (runP t p)).heap.length ≤ 1000000 := by
 by_cases h2 : (runP t p).1.ed = 2
 ·have := (validH_all (run_valid hv h2).valid).2.2.2; omega
 ·rw [res_else h2]; exact Nat.zero_le _
theorem c_mStartOf (t : List Class) (cl : Bool) (R : Res) (c1 c2 : Bool) (H : AHeap) (hn : namesOk t) (hl : R.heap.length ≤ 1000000) : ACalls Tryz.prog 16 [aTree t cl, aRes R c1 c2] H fun r H' => r = .tup [.agg (rStart (stOf t R).1), B (stOf t R).2] ∧ H' = H := by
 refine acalls_of1 Tryz.func16 rfl (by kernel_rfl) rfl rfl (awp_sound (fz := fun _ => []) (im := fun s => s == 2 || s == 3 || s == 27) mixed _ _ _ _ (by kernel_rfl) ?_)
 simp +contextual -dsimp -implicitDefEqProofs (maxSteps:=5000000) only [go_sem,reduceIte,reduceCtorEq,Nat.reduceEqDiff,Nat.reduceBEq,Nat.reduceAdd,Nat.reduceLeDiff,Nat.reduceMul,Nat.reduceLT,Int.reduceEq,Int.reduceLT,Int.reduceLE]
 intro b4 hb4
 refine (c_ValidTree t cl _ hn).det ?_
 cases hv : validT t
 ·simp +contextual -dsimp -implicitDefEqProofs (maxSteps:=5000000) only [go_sem,reduceIte,reduceCtorEq,Nat.reduceEqDiff,Nat.reduceBEq,Nat.reduceAdd,Nat.reduceLeDiff,Nat.reduceMul,Nat.reduceLT,Int.reduceEq,Int.reduceLT,Int.reduceLE]
  refine retR_less (l := [.agg (rStart (stOf t R).1), B (stOf t R).2]) (H' := H) ?_ (le_set hb4) ⟨rfl, rfl⟩
  simp only [stOf,hv,if_true,if_false,resA,go_sem,reduceIte,reduceCtorEq,Nat.reduceEqDiff,Nat.reduceBEq,Nat.reduceAdd,Nat.reduceLeDiff,Nat.reduceMul,Nat.reduceLT,Int.reduceEq,Int.reduceLT,Int.reduceLE]
  try rfl
 ·simp +contextual -dsimp -implicitDefEqProofs (maxSteps:=5000000) only [go_sem,reduceIte,reduceCtorEq,Nat.reduceEqDiff,Nat.reduceBEq,Nat.reduceAdd,Nat.reduceLeDiff,Nat.reduceMul,Nat.reduceLT,Int.reduceEq,Int.reduceLT,Int.reduceLE]
  refine ⟨fun h0 => ?_, fun h0 => ?_⟩
  refine retR_less (l := [.agg (rStart (stOf t R).1), B (stOf t R).2]) (H' := H) ?_ (le_set hb4) ⟨rfl, rfl⟩
  simp only [stOf,hv,h0,if_true,if_false,resA,go_sem,reduceIte,reduceCtorEq,Nat.reduceEqDiff,Nat.reduceBEq,Nat.reduceAdd,Nat.reduceLeDiff,Nat.reduceMul,Nat.reduceLT,Int.reduceEq,Int.reduceLT,Int.reduceLE]
  try rfl
  refine ⟨fun h2 => ?_, fun h2 => ?_⟩
  ·refine (c_faultsIn t cl R.heap c2 [R.val] true _ hn hl).det ?_
   simp only [List.all_cons,List.all_nil,Bool.and_true]
   cases hg : validH t R.heap && inR R.val 0 (R.heap.length - 1)
   ·simp +contextual -dsimp -implicitDefEqProofs (maxSteps:=5000000) only [go_sem,reduceIte,reduceCtorEq,Nat.reduceEqDiff,Nat.reduceBEq,Nat.reduceAdd,Nat.reduceLeDiff,Nat.reduceMul,Nat.reduceLT,Int.reduceEq,Int.reduceLT,Int.reduceLE,h2]
    refine retR_less (l := [.agg (rStart (stOf t R).1), B (stOf t R).2]) (H' := H) ?_ (le_set hb4) ⟨rfl, rfl⟩
    simp only [stOf,hv,h0,h2,hg,if_true,if_false,resA,go_sem,reduceIte,reduceCtorEq,Nat.reduceEqDiff,Nat.reduceBEq,Nat.reduceAdd,Nat.reduceLeDiff,Nat.reduceMul,Nat.reduceLT,Int.reduceEq,Int.reduceLT,Int.reduceLE]
    try rfl
   ·have hg2 := hg
    rw [Bool.and_eq_true] at hg2
    have hi := inR_len.1 hg2.2
    have i2 : R.val.toNat < R.heap.length := by omega
    simp +contextual -dsimp -implicitDefEqProofs (maxSteps:=5000000) only [go_sem,reduceIte,reduceCtorEq,Nat.reduceEqDiff,Nat.reduceBEq,Nat.reduceAdd,Nat.reduceLeDiff,Nat.reduceMul,Nat.reduceLT,Int.reduceEq,Int.reduceLT,Int.reduceLE,h2,hi.1,hi.2,i2]
    rintro b6 ⟨s1, s2, hb6⟩
    refine retR_less (l := [.agg (rStart (stOf t R).1), B (stOf t R).2]) (H' := H) ?_ (le_s1 (le_s1 (AHeap.le_refl _) hb4) hb6) ⟨rfl, rfl⟩
    have e0 : ¬ (2 : Int) = 0 := by decide
    simp only [stOf,hv,h0,h2,hg,e0,and_self,if_true,if_false,resA,go_sem,reduceIte,reduceCtorEq,Nat.reduceEqDiff,Nat.reduceBEq,Nat.reduceAdd,Nat.reduceLeDiff,Nat.reduceMul,Nat.reduceLT,Int.reduceEq,Int.reduceLT,Int.reduceLE,s1,s2]
    try rfl
  ·
   refine retR_less (l := [.agg (rStart (stOf t R).1), B (stOf t R).2]) (H' := H) ?_ (le_set hb4) ⟨rfl, rfl⟩
   simp only [stOf,hv,h0,h2,false_and,if_true,if_false,resA,go_sem,reduceIte,reduceCtorEq,Nat.reduceEqDiff,Nat.reduceBEq,Nat.reduceAdd,Nat.reduceLeDiff,Nat.reduceMul,Nat.reduceLT,Int.reduceEq,Int.reduceLT,Int.reduceLE]
   try rfl
end
section
open Go Go.Sim
set_option maxRecDepth 100000

theorem sr_start (s : RS) (wk : Bool) : SR (behind s.log s.fs wk) rs0 s := ⟨by show _ = _ ++ []; rw [List.append_nil], [], by show _ = _ ++ []; rw [List.append_nil], fun _ => rfl, fun _ => rfl⟩
def bodyP (t : List Class) (f : Fo) (s : RS) : En × RS := runF t f 1 none (-1) s
theorem en_same {e : En} {s : RS} (h : e.ed = 0 → e.val = 0) : (if e.ed = 0 then (En.next, s) else (e, s)) = (e, s) := by
 split
 ·rename_i c
  obtain ⟨a, b⟩ := e
  simp only at c h
  rw [c, h c]; rfl
 ·rfl
theorem body_eq {t : List Class} {p : List Line} : REq (runP t p) (bodyP t (forestP p) rs0) := run_eq t (forestP p) 0 1 (-1) rs0 rs0 rfl rfl
def finP (p q : List Line) : List Line := (⟨0, 7, 0, 0⟩ :: innP p) ++ (⟨0, 10, 0, 0⟩ :: innP q)
theorem forest_two {t : List Class} {p q : List Line} (hp : ValidP t p) (hq : ValidP t q) (k a : Int) : forestP ((⟨0, 7, 0, 0⟩ :: innP p) ++ (⟨0, k, a, 0⟩ :: innP q)) = .node 7 0 0 (innF (forestP p)) (.node k a 0 (innF (forestP q)) .nil) := by
 obtain ⟨_, e1, _⟩ := validP_forest hp
 obtain ⟨_, e2, _⟩ := validP_forest hq
 have : (⟨0, 7, 0, 0⟩ :: innP p) ++ (⟨0, k, a, 0⟩ :: innP q) = (Fo.node 7 0 0 (innF (forestP p)) (.node k a 0 (innF (forestP q)) .nil)).flat 0 := by
  simp only [Fo.flat,List.append_nil]
  rw [show (0 : Int) + 1 = 1 from rfl, innF_flat, innF_flat, ← e1, ← e2]; rfl
 rw [this, forestP_flat]
noncomputable def nextP (t : List Class) (p q : List Line) (h : Int) : En × RS := runF t (forestP q) (0 + 1 + (innF (forestP p)).size + 1) none h (bodyP t (forestP p) rs0).2
theorem fin_run {t : List Class} {p q : List Line} (hp : ValidP t p) (hq : ValidP t q) :
  runP t (finP p q) = (fun n : En × RS => (if n.1.ed = 0 then (runP t p).1 else n.1, n.2)) (nextP t p q (if (runP t p).1.ed = 2 then (runP t p).1.val else -1)) := by
 have hb := body_eq (t := t) (p := p)
 have e0 : runF t (innF (forestP p)) (0 + 1) none (-1) rs0 = bodyP t (forestP p) rs0 := run_inn t (forestP p) _ _ _
 rw [runP_def, finP, forest_two hp hq, runF_try, e0]
 simp only [runF,show followsK 10 = true from rfl,if_true,show ¬ (10 : Int) = 8 by decide,show ¬ (10 : Int) = 9 by decide,if_false]
 rw [run_inn, hb.1]
 have en : runF t (forestP q) (0 + 1 + (innF (forestP p)).size + 1) none (if (runP t p).1.ed = 2 then (runP t p).1.val else -1) (bodyP t (forestP p) rs0).2 = nextP t p q (if (runP t p).1.ed = 2 then (runP t p).1.val else -1) := rfl
 rw [en]
 generalize nextP t p q (if (runP t p).1.ed = 2 then (runP t p).1.val else -1) = n
 refine en_same (s := n.2) ?_
 split
 ·exact (ed_top hp).1
 ·exact fun h => absurd h ‹_›
theorem noAg_flat : ∀ (f : Fo) (d : Int), noAg f = true ↔ ∀ x ∈ f.flat d, x.kind ≠ 3
 | .nil, d => by simp [noAg, Fo.flat]
 | .node k a b kids rest, d => by
  simp only [noAg,Fo.flat,Bool.and_eq_true,Bool.not_eq_true',decide_eq_false_iff_not,noAg_flat kids (d + 1),noAg_flat rest d,List.mem_cons,List.mem_append]
  constructor
  ·rintro ⟨h1, h2, h3⟩ x (rfl | h | h)
   ·exact h1
   ·exact h2 x h
   ·exact h3 x h
  ·exact fun h => ⟨h _ (.inl rfl), fun x hx => h x (.inr (.inl hx)), fun x hx => h x (.inr (.inr hx))⟩
theorem next_on {t : List Class} {p q : List Line} (hq : ValidP t q) (hn : ∀ x ∈ q, x.kind ≠ 3) (h : Int) : RR (behind (runP t p).2.log (runP t p).2.fs true) (runP t q) (nextP t p q h) := by
 have hb := body_eq (t := t) (p := p)
 obtain ⟨_, e2, _⟩ := validP_forest hq
 have hs := sr_start (bodyP t (forestP p) rs0).2 true
 rw [hb.2.1, hb.2.2] at hs
 exact sim_behind (runP t p).2.log (runP t p).2.fs true t (forestP q) 0 _ (-1) h rs0 _ (fun _ => (noAg_flat _ 0).2 (by rw [← e2]; exact hn)) (.inr ⟨by decide, .inl rfl⟩) hs
theorem next_goes {t : List Class} {p q : List Line} (hp : ValidP t p) (hq : ValidP t q) {h : Int} (hh : h < (runP t p).2.fs.length) : Goes t (cost (forestP q)) (bodyP t (forestP p) rs0).2 (nextP t p q h).1 (nextP t p q h).2 := by
 obtain ⟨h1, h2, h3, h4, h5, h6⟩ := validP_forest hq
 have hb := body_eq (t := t) (p := p)
 exact goes_run h1 (forestP q) _ none 0 h _ h3 (by rw [hb.2.2]; exact (runP_goes hp).ok) (by rw [hb.2.2]; exact hh) trivial
theorem run_val {t : List Class} {p : List Line} (hp : ValidP t p) : (if (runP t p).1.ed = 2 then (runP t p).1.val else -1) < (runP t p).2.fs.length := by
 have := (runP_goes hp).val
 split
 ·exact (this ‹_›).2
 ·omega
theorem fin_law {t : List Class} {p q : List Line} (hp : ValidP t p) (hq : ValidP t q) (hf : ValidP t (finP p q)) :
  (∃ m, (resOf (runP t (finP p q))).log = (resOf (runP t p)).log ++ m) ∧
  ((∀ x ∈ q, x.kind ≠ 3) → (resOf (runP t (finP p q))).log = (resOf (runP t p)).log ++ (resOf (runP t q)).log ∧
   ((resOf (runP t q)).ed = 0 → (resOf (runP t (finP p q))).ed = (resOf (runP t p)).ed ∧ (resOf (runP t (finP p q))).val = (resOf (runP t p)).val ∧ (resOf (runP t (finP p q))).heap = (resOf (runP t p)).heap) ∧
   ((resOf (runP t q)).ed ≠ 0 → (resOf (runP t (finP p q))).ed = (resOf (runP t q)).ed ∧ ((resOf (runP t q)).ed = 2 ∨ (resOf (runP t (finP p q))).val = (resOf (runP t q)).val))) := by
 have hb := body_eq (t := t) (p := p)
 have hg := next_goes hp hq (run_val hp)
 have hgf := (runP_goes hf).ok.ho
 have hgp := runP_goes hp
 have hon := fun hn => next_on (p := p) hq hn (if (runP t p).1.ed = 2 then (runP t p).1.val else -1)
 rw [fin_run hp hq] at hgf ⊢
 generalize nextP t p q (if (runP t p).1.ed = 2 then (runP t p).1.val else -1) = n at hg hon hgf ⊢
 simp only [res_log,res_ed]
 obtain ⟨m, e1, _⟩ := hg.log
 obtain ⟨X, e2, _⟩ := hg.fs
 rw [hb.2.1] at e1
 rw [hb.2.2] at e2
 refine ⟨⟨m, e1⟩, fun hn => ?_⟩
 obtain ⟨⟨a1, a2, a3⟩, b1, _⟩ := hon hn
 have b1' : n.2.log = (runP t p).2.log ++ (runP t q).2.log := b1
 refine ⟨b1', fun h0 => ?_, fun h0 => ?_⟩
 ·rw [if_pos (by omega)]
  refine ⟨rfl, ?_⟩
  by_cases c : (runP t p).1.ed = 2
  ·rw [res_two (r := ((runP t p).1, n.2)) c, res_two c]
   simp only at hgf
   have := iso_pre (X := X) hgp.ok.ho (by rw [← e2]; exact hgf) (hgp.val c).1 (hgp.val c).2
   show (isoR n.2.fs (runP t p).1.val).1 = _ ∧ (isoR n.2.fs (runP t p).1.val).2 = _
   rw [e2, this]
   exact ⟨rfl, rfl⟩
  ·rw [res_else (r := ((runP t p).1, n.2)) c, res_else c]
   exact ⟨rfl, rfl⟩
 ·rw [if_neg (by omega)]
  refine ⟨a1, ?_⟩
  by_cases c : (runP t q).1.ed = 2
  ·exact .inl c
  ·right
   rw [res_else (r := (n.1, n.2)) (by show n.1.ed ≠ 2; rw [a1]; exact c), res_else c]
   exact a3 c
end
end
end Go.Proofs.YtjpfgafdjlkblaaGreat
