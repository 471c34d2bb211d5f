/- A small calculus over the model's own walk (Code.wp, Calls): abstract values with contents, owned blocks, and what a call does to them. Own text; no condition. -/
import Derived.WalkKit
import Derived.OrdersIn
import Derived.TacticsIn
import Derived.RangeFuncLeaves
import Derived.RangeFuncSeq
import Derived.Orders
import Derived.Below
import Derived.Laws.AppendOwn
import Derived.Laws.OwnMore
import Derived.Laws.MakeOwn
import Derived.Laws.Slices
namespace Go.Sim
open Go

inductive AV where
  | top
  | lit (v : Value)
  | agg (cs : List AV)
  | tup (vs : List AV)
  | fn (f : FuncId) (first caps : List AV)
  | ptr (b sz i j : Nat)
  | sl (b sz off len : Nat) (cl : Bool)
  | vptr (es : List (List AV)) (i j : Nat)
  | vsl (es : List (List AV)) (cl : Bool)
  | nonnil
  deriving Inhabited

structure ABlk where
  sz : Nat
  ty : TypeId
  es : List (List AV)

def AHeap : Type := Nat → Option ABlk
def AHeap.set (H : AHeap) (b : Nat) (k : ABlk) : AHeap := fun c => if c = b then some k else H c
def AHeap.del (H : AHeap) (b : Nat) : AHeap := fun c => if c = b then none else H c
def AHeap.none : AHeap := fun _ => Option.none
def AHeap.dom (H : AHeap) (b : Nat) : Prop := H b ≠ Option.none
def AHeap.le (H K : AHeap) : Prop := ∀ b k, H b = some k → K b = some k

inductive Rel (O : Nat → Prop) (w : World) : AV → Value → Prop where
  | top (v : Value) : Rel O w .top v
  | lit (v : Value) : Rel O w (.lit v) v
  | agg (cs : List AV) (vs : Array Value) : vs.size = cs.length → (∀ (i : Nat) (v : Value), vs[i]? = some v → v.oneCell' = true) →
      (∀ (i : Nat) (c : AV) (v : Value), cs[i]? = some c → vs[i]? = some v → Rel O w c v) → Rel O w (.agg cs) (.agg vs)
  | tup (cs : List AV) (vs : Array Value) : vs.size = cs.length →
      (∀ (i : Nat) (c : AV) (v : Value), cs[i]? = some c → vs[i]? = some v → Rel O w c v) → Rel O w (.tup cs) (.tuple vs)
  | fn (f : FuncId) (as bs : List AV) (us vs : Array Value) : us.size = as.length → vs.size = bs.length →
      (∀ (i : Nat) (c : AV) (v : Value), as[i]? = some c → us[i]? = some v → Rel O w c v) →
      (∀ (i : Nat) (c : AV) (v : Value), bs[i]? = some c → vs[i]? = some v → Rel O w c v) → Rel O w (.fn f as bs) (.func (.func f) us vs)
  | ptr (b sz i j : Nat) : sz ≠ 0 → Rel O w (.ptr b sz i j) (.pointer (some ⟨b, i * sz + j, none⟩))
  | sl (b sz off len cap : Nat) (cl : Bool) (c : Array Value) (t : TypeId) (fr : Nat × Nat) : len ≤ cap → cap ≤ maxLen → (cl = true → cap = len) →
      w.heap[b]? = some (.cells c t fr) → (off + cap) * sz ≤ c.size → sz ≠ 0 → Rel O w (.sl b sz off len cl) (.slice (some ⟨b, off * sz, none⟩) len cap)
  | vptr (es : List (List AV)) (i j b o sz : Nat) (g : Nat → Nat → Value) : ¬ O b → b < w.heap.size → (∀ (p : Nat) (r : List AV), es[p]? = some r → r.length = sz) →
      (∀ (p q : Nat) (r : List AV) (x : AV), es[p]? = some r → r[q]? = some x → w.cell? ⟨b, o + (p * sz + q), none⟩ = some (g p q)) →
      (∀ (p q : Nat) (r : List AV) (x : AV), es[p]? = some r → r[q]? = some x → (g p q).oneCell' = true) →
      (∀ (p q : Nat) (r : List AV) (x : AV), es[p]? = some r → r[q]? = some x → Rel O w x (g p q)) →
      Rel O w (.vptr es i j) (.pointer (some ⟨b, o + (i * sz + j), none⟩))
  | vnil (cl : Bool) : Rel O w (.vsl [] cl) (.slice none 0 0)
  | vsl (es : List (List AV)) (cl : Bool) (b o sz cap : Nat) (g : Nat → Nat → Value) : es.length ≤ cap → cap ≤ maxLen → (cl = true → cap = es.length) →
      (cap ≠ 0 → ¬ O b) → b < w.heap.size → (∀ (p : Nat) (r : List AV), es[p]? = some r → r.length = sz) →
      (∀ (p q : Nat) (r : List AV) (x : AV), es[p]? = some r → r[q]? = some x → w.cell? ⟨b, o + (p * sz + q), none⟩ = some (g p q)) →
      (∀ (p q : Nat) (r : List AV) (x : AV), es[p]? = some r → r[q]? = some x → (g p q).oneCell' = true) →
      (∀ (p q : Nat) (r : List AV) (x : AV), es[p]? = some r → r[q]? = some x → Rel O w x (g p q)) →
      Rel O w (.vsl es cl) (.slice (some ⟨b, o, none⟩) es.length cap)
  | nonnil (t : TypeId) (v : Value) : Rel O w .nonnil (.iface t v)

structure Ev (O : Nat → Prop) (w w' : World) : Prop where
  os : w'.os = w.os
  tape : w'.tape = w.tape
  output : w'.output = w.output
  size : w.heap.size ≤ w'.heap.size
  keep : ∀ b, b < w.heap.size → ¬ O b → w'.heap[b]? = w.heap[b]?
  shape : ∀ (b : Nat) (c : Array Value) (t : TypeId) (fr : Nat × Nat), w.heap[b]? = some (.cells c t fr) → ∃ c' : Array Value, w'.heap[b]? = some (.cells c' t fr) ∧ c'.size = c.size

theorem Ev.refl (O : Nat → Prop) (w : World) : Ev O w w := ⟨rfl, rfl, rfl, Nat.le_refl _, fun _ _ _ => rfl, fun _ c _ _ h => ⟨c, h, rfl⟩⟩

def Fresh (O O' : Nat → Prop) (w : World) : Prop := ∀ b, O' b → O b ∨ w.heap.size ≤ b

theorem Fresh.refl (O : Nat → Prop) (w : World) : Fresh O O w := fun _ h => .inl h

theorem Ev.trans {O O1 : Nat → Prop} {w w1 w2 : World} (h : Ev O w w1) (hf : Fresh O O1 w) (k : Ev O1 w1 w2) : Ev O w w2 := by
  refine ⟨k.os.trans h.os, k.tape.trans h.tape, k.output.trans h.output, Nat.le_trans h.size k.size, ?_, ?_⟩
  · intro b hb ho
    have h1 : ¬ O1 b := fun h1 => (hf b h1).elim ho (fun h2 => by omega)
    rw [k.keep b (Nat.lt_of_lt_of_le hb h.size) h1, h.keep b hb ho]
  · intro b c t fr hc
    obtain ⟨c1, h1, s1⟩ := h.shape b c t fr hc
    obtain ⟨c2, h2, s2⟩ := k.shape b c1 t fr h1
    exact ⟨c2, h2, s2.trans s1⟩

theorem Fresh.trans {O O1 O2 : Nat → Prop} {w w1 : World} (h : Fresh O O1 w) (hs : w.heap.size ≤ w1.heap.size) (k : Fresh O1 O2 w1) : Fresh O O2 w := by
  intro b hb
  rcases k b hb with h1 | h1
  · exact h b h1
  · exact .inr (Nat.le_trans hs h1)

theorem cell_of_heap {w w' : World} {a : Addr} (h : w'.heap[a.block]? = w.heap[a.block]?) : w'.cell? a = w.cell? a := by simp [World.cell?, h]

theorem Rel.step {O O' : Nat → Prop} {w w' : World} {x : AV} {v : Value} (h : Rel O w x v) (hk : Ev O w w') (hO : Fresh O O' w) : Rel O' w' x v := by
  have hn : ∀ b, b < w.heap.size → ¬ O b → ¬ O' b := fun b hb ho h1 => (hO b h1).elim ho (fun h2 => by omega)
  induction h with
  | top v => exact .top v
  | lit v => exact .lit v
  | agg cs vs hs h1 _ ih => exact .agg cs vs hs h1 ih
  | tup cs vs hs _ ih => exact .tup cs vs hs ih
  | fn f as bs us vs h1 h2 _ _ ih1 ih2 => exact .fn f as bs us vs h1 h2 ih1 ih2
  | ptr b sz i j hz => exact .ptr b sz i j hz
  | sl b sz off len cap cl c t fr h1 h2 h3 h4 h5 hz =>
    obtain ⟨c', h6, h7⟩ := hk.shape b c t fr h4
    exact .sl b sz off len cap cl c' t fr h1 h2 h3 h6 (by rw [h7]; exact h5) hz
  | vptr es i j b o sz g h1 h2 h3 h4 h5 _ ih =>
    exact .vptr es i j b o sz g (hn b h2 h1) (Nat.lt_of_lt_of_le h2 hk.size) h3
      (fun p q r x hp hq => (cell_of_heap (hk.keep b h2 h1)).trans (h4 p q r x hp hq)) h5 ih
  | vnil cl => exact .vnil cl
  | vsl es cl b o sz cap g h1 h2 h3 h4 h5 h6 h7 h8 _ ih =>
    exact .vsl es cl b o sz cap g h1 h2 h3 (fun hc => hn b h5 (h4 hc)) (Nat.lt_of_lt_of_le h5 hk.size) h6
      (fun p q r x hp hq => (cell_of_heap (hk.keep b h5 (h4 (by have := (List.getElem?_eq_some_iff.1 hp).1; omega)))).trans (h7 p q r x hp hq)) h8 ih
  | nonnil t v => exact .nonnil t v

theorem Rel.sub {O O' : Nat → Prop} {w : World} {x : AV} {v : Value} (h : Rel O w x v) (hO : ∀ b, O' b → O b) : Rel O' w x v :=
  h.step (.refl O w) (fun b hb => .inl (hO b hb))

def RelL (O : Nat → Prop) (w : World) (xs : List AV) (vs : List Value) : Prop :=
  vs.length = xs.length ∧ ∀ (i : Nat) (x : AV) (v : Value), xs[i]? = some x → vs[i]? = some v → Rel O w x v

theorem RelL.nil (O : Nat → Prop) (w : World) : RelL O w [] [] := ⟨rfl, fun i x v h => by simp at h⟩
theorem RelL.cons {O : Nat → Prop} {w : World} {x : AV} {v : Value} {xs : List AV} {vs : List Value} (h : Rel O w x v) (k : RelL O w xs vs) : RelL O w (x :: xs) (v :: vs) := by
  refine ⟨by simp [k.1], ?_⟩
  intro i y u hy hu
  cases i with
  | zero => simp at hy hu; subst hy; subst hu; exact h
  | succ i => exact k.2 i y u (by simpa using hy) (by simpa using hu)
theorem RelL.get {O : Nat → Prop} {w : World} {xs : List AV} {vs : List Value} (k : RelL O w xs vs) {i : Nat} {x : AV} (h : xs[i]? = some x) : ∃ v, vs[i]? = some v ∧ Rel O w x v := by
  have hi : i < xs.length := by
    rcases Nat.lt_or_ge i xs.length with h1 | h1
    · exact h1
    · simp [List.getElem?_eq_none h1] at h
  have hv : i < vs.length := by rw [k.1]; exact hi
  exact ⟨vs[i], by simp [hv], k.2 i x _ h (by simp [hv])⟩
theorem RelL.step {O O' : Nat → Prop} {w w' : World} {xs : List AV} {vs : List Value} (h : RelL O w xs vs) (hk : Ev O w w') (hO : Fresh O O' w) : RelL O' w' xs vs :=
  ⟨h.1, fun i x v hx hv => (h.2 i x v hx hv).step hk hO⟩
theorem RelL.append {O : Nat → Prop} {w : World} {xs ys : List AV} {us vs : List Value} (h : RelL O w xs us) (k : RelL O w ys vs) : RelL O w (xs ++ ys) (us ++ vs) := by
  refine ⟨by simp [h.1, k.1], ?_⟩
  intro i x v hx hv
  rcases Nat.lt_or_ge i xs.length with hi | hi
  · rw [List.getElem?_append_left hi] at hx
    rw [List.getElem?_append_left (by rw [h.1]; exact hi)] at hv
    exact h.2 i x v hx hv
  · rw [List.getElem?_append_right hi] at hx
    rw [List.getElem?_append_right (by rw [h.1]; exact hi), h.1] at hv
    exact k.2 _ x v hx hv
theorem RelL.drop {O : Nat → Prop} {w : World} {xs : List AV} {us : List Value} (h : RelL O w xs us) (n : Nat) : RelL O w (xs.drop n) (us.drop n) :=
  ⟨by simp [h.1], fun i x v hx hv => h.2 (n + i) x v (by simpa using hx) (by simpa using hv)⟩
theorem RelL.take {O : Nat → Prop} {w : World} {xs : List AV} {us : List Value} (h : RelL O w xs us) (n : Nat) : RelL O w (xs.take n) (us.take n) := by
  refine ⟨by simp [h.1], fun i x v hx hv => ?_⟩
  rw [List.getElem?_take] at hx hv
  split at hx
  · rename_i hi
    rw [if_pos hi] at hv
    exact h.2 i x v hx hv
  · cases hx

def AV.row : AV → List AV
  | .agg cs => cs
  | x => [x]
def AV.one : AV → Bool
  | .lit v => v.oneCell'
  | .top | .agg _ | .tup _ => false
  | _ => true

theorem Rel.one {O : Nat → Prop} {w : World} {x : AV} {v : Value} (h : Rel O w x v) (h1 : x.one = true) : v.oneCell' = true := by
  cases h <;> simp_all [AV.one, Value.oneCell']

def rKV (p : Int × Bool) : List AV := [.lit (.int .i64 p.1), .lit (.bool p.2)]
def EntIs (e : MapEntry) (p : Int × Bool) : Prop := e.key = .int .i64 p.1 ∧ e.val = .bool p.2
inductive EntsAre : List MapEntry → List (Int × Bool) → Prop where
  | nil : EntsAre [] []
  | cons {e : MapEntry} {p : Int × Bool} {ms : List MapEntry} {l : List (Int × Bool)} : EntIs e p → EntsAre ms l → EntsAre (e :: ms) (p :: l)
def MapAt (w : World) (b : Nat) (es : List (List AV)) : Prop := ∃ (ms : Array MapEntry) (clock : Nat), w.heap[b]? = some (.map ms clock) ∧ ∃ l : List (Int × Bool), es = l.map rKV ∧ EntsAre ms.toList l
theorem MapAt.same {w w' : World} {b : Nat} {es : List (List AV)} (h : MapAt w b es) (hb : w'.heap[b]? = w.heap[b]?) : MapAt w' b es := by
  obtain ⟨ms, c, h1, h2⟩ := h
  exact ⟨ms, c, hb.trans h1, h2⟩
theorem MapAt.lt {w : World} {b : Nat} {es : List (List AV)} (h : MapAt w b es) : b < w.heap.size := by
  obtain ⟨ms, c, h1, _⟩ := h
  exact (Array.getElem?_eq_some_iff.1 h1).1

structure HRel (H : AHeap) (w : World) : Prop where
  mp : ∀ b k, H b = some k → k.sz = 0 → MapAt w b k.es
  blk : ∀ b k, H b = some k → k.sz ≠ 0 → ∃ c : Array Value, w.heap[b]? = some (.cells c k.ty (0, 0)) ∧ k.es.length * k.sz ≤ c.size ∧
    (∀ (p : Nat) (r : List AV), k.es[p]? = some r → r.length = k.sz) ∧
    (∀ (p q : Nat) (r : List AV) (x : AV), k.es[p]? = some r → r[q]? = some x → ∃ v, c[p * k.sz + q]? = some v ∧ v.oneCell' = true ∧ Rel H.dom w x v)

theorem HRel.lt {H : AHeap} {w : World} (h : HRel H w) {b : Nat} (hb : H.dom b) : b < w.heap.size := by
  unfold AHeap.dom at hb
  cases hk : H b with
  | none => exact absurd hk hb
  | some k =>
    by_cases hz : k.sz = 0
    · exact (h.mp b k hk hz).lt
    obtain ⟨c, hc, _⟩ := h.blk b k hk hz
    exact (Array.getElem?_eq_some_iff.1 hc).1

theorem AHeap.le.dom {H K : AHeap} (h : H.le K) {b : Nat} (hb : H.dom b) : K.dom b := by
  unfold AHeap.dom at *
  cases hk : H b with
  | none => exact absurd hk hb
  | some k => rw [h b k hk]; simp

theorem HRel.sub {H K : AHeap} {w : World} (h : HRel K w) (hle : H.le K) : HRel H w := by
  refine ⟨fun b k hb hz => h.mp b k (hle b k hb) hz, fun b k hb hz => ?_⟩
  obtain ⟨c, h1, h2, h3, h4⟩ := h.blk b k (hle b k hb) hz
  refine ⟨c, h1, h2, h3, fun p q r x hp hq => ?_⟩
  obtain ⟨v, hv, ho, hr⟩ := h4 p q r x hp hq
  exact ⟨v, hv, ho, hr.sub (fun b hb => hle.dom hb)⟩

theorem HRel.keep {H : AHeap} {w w' : World} (h : HRel H w) (hk : Ev H.dom w w') (hs : ∀ b, H.dom b → w'.heap[b]? = w.heap[b]?) : HRel H w' := by
  refine ⟨fun b k hb hz => (h.mp b k hb hz).same (hs b (by simp [AHeap.dom, hb])), fun b k hb hz => ?_⟩
  obtain ⟨c, h1, h2, h3, h4⟩ := h.blk b k hb hz
  refine ⟨c, (hs b (by simp [AHeap.dom, hb])).trans h1, h2, h3, fun p q r x hp hq => ?_⟩
  obtain ⟨v, hv, ho, hr⟩ := h4 p q r x hp hq
  exact ⟨v, hv, ho, hr.step hk (.refl _ _)⟩

structure ASt where
  n : Nat
  tm : Nat → AV
  H : AHeap

def mark (D : Nat) : Deferred := { target := .collected D, args := #[] }
def DefOk (O : Nat → Prop) (ds : List Deferred) (w : World) : Prop :=
  ∃ Ds : List Nat, ds = Ds.map mark ∧ Ds.Nodup ∧ ∀ D ∈ Ds, ¬ O D ∧ w.heap[D]? = some (.deferred (some []))
theorem DefOk.nil (O : Nat → Prop) (w : World) : DefOk O [] w := ⟨[], rfl, List.nodup_nil, fun D h => by cases h⟩
theorem DefOk.step {O O' : Nat → Prop} {ds : List Deferred} {w w' : World} (h : DefOk O ds w) (hk : Ev O w w') (hf : Fresh O O' w) : DefOk O' ds w' := by
  obtain ⟨Ds, h1, h2, h3⟩ := h
  refine ⟨Ds, h1, h2, fun D hD => ?_⟩
  obtain ⟨n1, n2⟩ := h3 D hD
  have hlt := (Array.getElem?_eq_some_iff.1 n2).1
  exact ⟨fun q => (hf D q).elim n1 (fun q => by omega), (hk.keep D hlt n1).trans n2⟩
theorem DefOk.sub {O O' : Nat → Prop} {ds : List Deferred} {w : World} (h : DefOk O ds w) (hO : ∀ b, O' b → O b) : DefOk O' ds w :=
  h.step (.refl O w) (fun b hb => .inl (hO b hb))
def DNew (a : Act) (w : World) (a' : Act) : Prop := ∃ Ds : List Nat, a'.defers = Ds.map mark ++ a.defers ∧ ∀ D ∈ Ds, w.heap.size ≤ D
theorem DNew.same {a a' : Act} {w : World} (h : a'.defers = a.defers) : DNew a w a' := ⟨[], by simpa using h, fun D h => by cases h⟩
theorem DNew.trans {a a1 a2 : Act} {w w1 : World} (h : DNew a w a1) (hs : w.heap.size ≤ w1.heap.size) (k : DNew a1 w1 a2) : DNew a w a2 := by
  obtain ⟨Ds, h1, h2⟩ := h
  obtain ⟨Es, k1, k2⟩ := k
  refine ⟨Es ++ Ds, by rw [k1, h1, List.map_append, List.append_assoc], fun D hD => ?_⟩
  rcases List.mem_append.1 hD with q | q
  · exact Nat.le_trans hs (k2 D q)
  · exact h2 D q

def WF (r : Option Nat) : Fence := { Fence.wide with round := r }

structure StRel (s : ASt) (a : Act) (w : World) : Prop where
  defers : DefOk s.H.dom a.defers w
  n : a.tmps.size = s.n
  tm : ∀ t, Rel s.H.dom w (s.tm t) (a.tmps.getD t undef)
  heap : HRel s.H w

def upd (tm : Nat → AV) (d : Nat) (x : AV) : Nat → AV := fun t => if t = d then x else tm t
def updO (tm : Nat → AV) (d : Option Nat) (x : AV) : Nat → AV := match d with
  | some d => upd tm d x
  | none => tm
def dstOk (n : Nat) : Option Nat → Bool
  | some d => decide (d < n)
  | none => true

theorem StRel.put {s : ASt} {a : Act} {w w' : World} (h : StRel s a w) {d : Option Tmp} (hd : dstOk s.n d = true) {x : AV} {v : Value} {H' : AHeap}
    (hk : Ev s.H.dom w w') (hf : Fresh s.H.dom H'.dom w) (hx : Rel H'.dom w' x v) (hh : HRel H' w') :
    StRel { s with tm := updO s.tm d x, H := H' } (a.put d v) w' := by
  refine ⟨?_, ?_, ?_, hh⟩
  · have e : (a.put d v).defers = a.defers := by cases d <;> rfl
    rw [e]; exact h.defers.step hk hf
  · cases d <;> simp [Act.put, h.n]
  · intro t
    cases d with
    | none => exact (h.tm t).step hk hf
    | some d =>
      have hd' : d < a.tmps.size := by rw [h.n]; simpa [dstOk] using hd
      show Rel H'.dom w' (upd s.tm d x t) _
      unfold upd
      by_cases ht : t = d
      · subst ht
        rw [if_pos rfl]
        simpa [Act.put, Array.getD, hd'] using hx
      · rw [if_neg ht]
        have := (h.tm t).step hk hf
        have e : (a.put (some d) v).tmps.getD t undef = a.tmps.getD t undef := by
          simp only [Act.put, Array.getD_eq_getD_getElem?, Array.getElem?_setIfInBounds]
          rw [if_neg (fun e => ht e.symm)]
        rw [e]; exact this

end Go.Sim
