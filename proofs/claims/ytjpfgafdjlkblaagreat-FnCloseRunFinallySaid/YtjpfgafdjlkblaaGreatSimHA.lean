/- The calculus: maps from whole numbers to truth values. No condition. -/
import Derived.Test.YtjpfgafdjlkblaaGreatSimH
import Derived.MapKept
namespace Go.Sim
open Go
def decKV : List (List AV) → Option (List (Int × Bool))
  | [] => some []
  | [.lit (.int .i64 k), .lit (.bool v)] :: r => match decKV r with
    | some l => some ((k, v) :: l)
    | none => none
  | _ :: _ => none
theorem dec_rKV : ∀ l : List (Int × Bool), decKV (l.map rKV) = some l
  | [] => rfl
  | (k, v) :: l => by simp only [List.map_cons, rKV, decKV]; rw [dec_rKV l]
def getKV : List (Int × Bool) → Int → Bool
  | [], _ => false
  | p :: r, n => if n = p.1 then p.2 else getKV r n
def putKV : List (Int × Bool) → Int → Bool → List (Int × Bool)
  | [], n, b => [(n, b)]
  | p :: r, n, b => if n = p.1 then (n, b) :: r else p :: putKV r n b
def tmap (P : Program) (t : TypeId) : Bool :=
  match P.underlying t with
  | some (.map k e) => match P.underlying k, P.info? e with
    | some (.int .i64), some i => match i.zero with
      | some (.bool false) => true
      | _ => false
    | _, _ => false
  | _ => false
theorem tmap_spec {P : Program} {t : TypeId} (h : tmap P t = true) : ∃ k e i, P.underlying t = some (.map k e) ∧ P.underlying k = some (.int .i64) ∧ P.info? e = some i ∧ i.zero = some (.bool false) := by
  unfold tmap at h
  split at h
  · rename_i k e hu
    split at h
    · rename_i i hk hi
      split at h
      · rename_i hz; exact ⟨k, e, i, hu, hk, hi, hz⟩
      · cases h
    · cases h
  · cases h
def lookA (P : Program) (H : AHeap) (t : TypeId) (x i : AV) (ok : Bool) : Option AV :=
  match tmap P t, x, i, ok with
  | true, .lit (.map (some b)), .lit (.int .i64 n), false => match H b with
    | some k => if k.sz = 0 then (match decKV k.es with
      | some l => some (.lit (.bool (getKV l n)))
      | none => none) else none
    | none => none
  | _, _, _, _ => none
def makeMapA (H : AHeap) (t : TypeId) (K : AV → AHeap → Prop) : Prop := ∀ b, H b = none → K (.lit (.map (some b))) (H.set b ⟨0, t, []⟩)
def putA (P : Program) (H : AHeap) (t : TypeId) (m k v : AV) (K : AV → AHeap → Prop) : Prop :=
  match tmap P t, m, k, v with
  | true, .lit (.map (some b)), .lit (.int .i64 n), .lit (.bool c) => match H b with
    | some kb => kb.sz = 0 ∧ (match decKV kb.es with
      | some l => K (.lit undef) (H.set b ⟨0, kb.ty, (putKV l n c).map rKV⟩)
      | none => False)
    | none => False
  | _, _, _, _ => False

theorem find_now (n : Int) : ∀ (ms : List MapEntry) (l : List (Int × Bool)) (i : Nat), EntsAre ms l →
    (Instr.findNow (.int .i64) (.int .i64 n) ms i = some none ∧ getKV l n = false ∧ ∀ b, putKV l n b = l ++ [(n, b)]) ∨
    (∃ (j : Nat) (e : MapEntry), Instr.findNow (.int .i64) (.int .i64 n) ms i = some (some (i + j, e.val)) ∧ ms[j]? = some e ∧ e.key = .int .i64 n ∧ e.val = .bool (getKV l n) ∧ ∀ b, putKV l n b = l.set j (n, b)) := by
  intro ms l i h
  induction h generalizing i with
  | nil => exact .inl ⟨rfl, rfl, fun b => rfl⟩
  | @cons e p ms l he _ ih =>
    obtain ⟨h1, h2⟩ := he
    have hs : Instr.sameNow (.int .i64) (.int .i64 n) e.key = some (n == p.1) := by rw [h1]; simp [Instr.sameNow]
    by_cases c : n = p.1
    · right
      refine ⟨0, e, ?_, rfl, by rw [h1, c], ?_, fun b => ?_⟩
      · have : (n == p.1) = true := by simpa using c
        simp only [Instr.findNow, hs, this]; rfl
      · rw [h2]; simp [getKV, c]
      · simp [putKV, c]
    · have hb : (n == p.1) = false := by simpa using c
      rcases ih (i + 1) with ⟨g1, g2, g3⟩ | ⟨j, e', g1, g2, g3, g4, g5⟩
      · left
        refine ⟨by simp only [Instr.findNow, hs, hb]; exact g1, by simp [getKV, c, g2], fun b => by simp [putKV, c, g3]⟩
      · right
        refine ⟨j + 1, e', ?_, by simpa using g2, g3, ?_, fun b => by simp [putKV, c, g5]⟩
        · simp only [Instr.findNow, hs, hb]
          rw [g1, show i + 1 + j = i + (j + 1) by omega]
        · rw [g4]; simp [getKV, c]
theorem check_int {P : Program} {w : World} {k : TypeId} {n : Int} (hk : P.underlying k = some (.int .i64)) (b : Bool) : (Instr.checkKey b 10000 k (.int .i64 n)).run P w = .ok () w := by
  exact MapKept.run_checkKey (k := .int .i64 n) hk (by simp [MapKept.IsKey]) b 9999
theorem find_key {P : Program} {w : World} {k : TypeId} {n : Int} {ms : List MapEntry} {r : Option (Nat × Value)} (hk : P.underlying k = some (.int .i64)) (h : Instr.findNow (.int .i64) (.int .i64 n) ms 0 = some r) : (Instr.findKey k (.int .i64 n) ms).run P w = .ok r w := by
  simp [Instr.findKey, run_underlying hk, h]
theorem lookA_sound {P : Program} {w : World} {H : AHeap} (hh : HRel H w) {O : Nat → Prop} {t : TypeId} {x i r : AV} {xv iv : Value} {ok : Bool} (hx : Rel O w x xv) (hi : Rel O w i iv) (h : lookA P H t x i ok = some r) : ∃ u, (Instr.lookup t xv iv ok).run P w = .ok u w ∧ Rel O w r u := by
  unfold lookA at h
  split at h
  · rename_i b n ht
    cases hx
    cases hi
    cases hb : H b with
    | none => simp [hb] at h
    | some k =>
      simp only [hb] at h
      split at h
      · rename_i hz
        obtain ⟨ms, clock, hm, l, hl, he⟩ := hh.mp b k hb hz
        rw [hl, dec_rKV] at h
        simp only [Option.some.injEq] at h
        subst h
        obtain ⟨kt, e, inf, hu, hk, hinf, hzero⟩ := tmap_spec ht
        rcases find_now n ms.toList l 0 he with ⟨g1, g2, _⟩ | ⟨j, e0, g1, g2, g3, g4, _⟩
        · refine ⟨.bool false, ?_, by rw [g2]; exact .lit _⟩
          simp [Instr.lookup, run_underlying hu, MapKept.run_getObj_map hm, check_int hk, find_key hk g1, zeroValue, typeInfo, hinf, hzero, Result.andThen]
        · refine ⟨e0.val, ?_, by rw [g4]; exact .lit _⟩
          simp [Instr.lookup, run_underlying hu, MapKept.run_getObj_map hm, check_int hk, find_key hk g1, Result.andThen]
      · cases h
  · cases h
def setMap (w : World) (b : Nat) (ms : Array MapEntry) (n : Nat) : World := { w with heap := w.heap.setIfInBounds b (.map ms n) }
theorem setMap_other {w : World} {b c : Nat} {ms : Array MapEntry} {n : Nat} (h : c ≠ b) : (setMap w b ms n).heap[c]? = w.heap[c]? := by
  simp only [setMap]
  rw [Array.getElem?_setIfInBounds]
  rw [if_neg (Ne.symm h)]
theorem setMap_self {w : World} {b : Nat} {ms : Array MapEntry} {n : Nat} (h : b < w.heap.size) : (setMap w b ms n).heap[b]? = some (.map ms n) := by
  simp only [setMap]
  rw [Array.getElem?_setIfInBounds]
  simp [h]
theorem ev_setMap {O : Nat → Prop} {w : World} {b : Nat} {ms ms' : Array MapEntry} {n n' : Nat} (hO : O b) (hb : w.heap[b]? = some (.map ms n)) : Ev O w (setMap w b ms' n') := by
  refine ⟨rfl, rfl, rfl, by simp [setMap], fun k hk ho => setMap_other (fun e => ho (e ▸ hO)), fun k d u f h => ?_⟩
  by_cases e : k = b
  · subst e; rw [hb] at h; cases h
  · exact ⟨d, (setMap_other e).trans h, rfl⟩
theorem hrel_setMap {H : AHeap} {w : World} (h : HRel H w) {b : Nat} {k : ABlk} (hb : H b = some k) {ms ms' : Array MapEntry} {n n' : Nat} (hm : w.heap[b]? = some (.map ms n)) {l : List (Int × Bool)} (hl : EntsAre ms'.toList l) :
    HRel (H.set b ⟨0, k.ty, l.map rKV⟩) (setMap w b ms' n') := by
  have hdom : H.dom b := by simp [AHeap.dom, hb]
  have hk := ev_setMap (O := H.dom) (ms' := ms') (n' := n') hdom hm
  have hf : Fresh H.dom (H.set b ⟨0, k.ty, l.map rKV⟩).dom w := by
    intro x hx
    rcases AHeap.dom_set hx with e | e
    · subst e; exact .inl hdom
    · exact .inl e
  have hlt := (Array.getElem?_eq_some_iff.1 hm).1
  refine HRel.mk' (fun x y hx hz => ?_) fun x y hx hz => ?_
  · by_cases e : x = b
    · subst e
      rw [AHeap.set_self] at hx
      cases hx
      exact ⟨ms', n', setMap_self hlt, l, rfl, hl⟩
    · rw [AHeap.set_ne H _ e] at hx
      exact (h.mp x y hx hz).same (setMap_other e)
  · by_cases e : x = b
    · subst e
      rw [AHeap.set_self] at hx
      cases hx
      exact absurd rfl hz
    · rw [AHeap.set_ne H _ e] at hx
      obtain ⟨d, h1, h2, h3⟩ := h.rows hx hz
      exact ⟨d, (setMap_other e).trans h1, h2, h3.step hk hf⟩
theorem ents_set {ms : List MapEntry} {l : List (Int × Bool)} (h : EntsAre ms l) : ∀ (j : Nat) {e : MapEntry} {p : Int × Bool}, EntIs e p → EntsAre (ms.set j e) (l.set j p) := by
  induction h with
  | nil => intro j e p _; exact .nil
  | cons h1 h2 ih =>
    intro j e p he
    cases j with
    | zero => exact .cons he h2
    | succ j => exact .cons h1 (ih j he)
theorem ents_app {ms : List MapEntry} {l : List (Int × Bool)} (h : EntsAre ms l) {e : MapEntry} {p : Int × Bool} (he : EntIs e p) : EntsAre (ms ++ [e]) (l ++ [p]) := by
  induction h with
  | nil => exact .cons he .nil
  | cons h1 _ ih => exact .cons h1 ih
theorem makeMapA_sound {P : Program} {w : World} {H : AHeap} (hh : HRel H w) {t : TypeId} {K : AV → AHeap → Prop} (hk : makeMapA H t K) :
    ∃ v w' r H', (Instr.makeMap t none).run P w = .ok v w' ∧ K r H' ∧ Rel H'.dom w' r v ∧ HRel H' w' ∧ Ev H.dom w w' ∧ Fresh H.dom H'.dom w := by
  refine ⟨_, w.alloc (.map #[] 0), _, _, by simp [Instr.makeMap], hk w.heap.size hh.fresh, .lit _, ?_, ev_alloc _ _ _, fresh_set_new _ _ _⟩
  have hk := ev_alloc H.dom w (.map #[] 0)
  have hf := fresh_set_new H w ⟨0, t, []⟩
  refine HRel.mk' (fun x y hx hz => ?_) fun x y hx hz => ?_
  · by_cases e : x = w.heap.size
    · subst e
      rw [AHeap.set_self] at hx
      cases hx
      exact ⟨#[], 0, heap_new w _, [], rfl, .nil⟩
    · rw [AHeap.set_ne H _ e] at hx
      exact (hh.mp x y hx hz).same (RowKit.Below.heap_alloc w _ x (hh.lt (by simp [AHeap.dom, hx])))
  · by_cases e : x = w.heap.size
    · subst e
      rw [AHeap.set_self] at hx
      cases hx
      exact absurd rfl hz
    · rw [AHeap.set_ne H _ e] at hx
      obtain ⟨d, h1, h2, h3⟩ := hh.rows hx hz
      exact ⟨d, (RowKit.Below.heap_alloc w _ x (hh.lt (by simp [AHeap.dom, hx]))).trans h1, h2, h3.step hk hf⟩
theorem modify_toList (es : Array MapEntry) (j : Nat) (f : MapEntry → MapEntry) {e : MapEntry} (h : es[j]? = some e) : (es.modify j f).toList = es.toList.set j (f e) := by
  rw [Array.toList_modify]
  have hl : es.toList[j]? = some e := by simpa using h
  apply List.ext_getElem?
  intro i
  rw [List.getElem?_modify, List.getElem?_set]
  by_cases c : j = i
  · subst c
    have hlt := (List.getElem?_eq_some_iff.1 hl).1
    have hlt' : j < es.size := by simpa using hlt
    have he : es[j] = e := by have := h; rw [Array.getElem?_eq_getElem hlt'] at this; simpa using this
    simp [hl, hlt', he]
  · simp [c]
theorem putA_sound {P : Program} {w : World} {H : AHeap} (hh : HRel H w) {O : Nat → Prop} {t : TypeId} {m k v : AV} {mv kv vv : Value} (hm : Rel O w m mv) (hk : Rel O w k kv) (hv : Rel O w v vv) {K : AV → AHeap → Prop} (h : putA P H t m k v K) :
    ∃ w' H', (Instr.mapUpdate t mv kv vv).run P w = .ok () w' ∧ K (.lit undef) H' ∧ HRel H' w' ∧ Ev H.dom w w' ∧ Fresh H.dom H'.dom w := by
  unfold putA at h
  split at h
  · rename_i b n c ht
    cases hm
    cases hk
    cases hv
    cases hb : H b with
    | none => simp [hb] at h
    | some kb =>
      simp only [hb] at h
      obtain ⟨hz, h⟩ := h
      obtain ⟨ms, clock, hmm, l, hl, he⟩ := hh.mp b kb hb hz
      rw [hl, dec_rKV] at h
      simp only at h
      obtain ⟨kt, e, inf, hu, hku, hinf, hzero⟩ := tmap_spec ht
      have hdom : H.dom b := by simp [AHeap.dom, hb]
      have hf : ∀ es, Fresh H.dom (H.set b ⟨0, kb.ty, es⟩).dom w := by
        intro es x hx
        rcases AHeap.dom_set hx with e | e
        · subst e; exact .inl hdom
        · exact .inl e
      rcases find_now n ms.toList l 0 he with ⟨g1, _, g3⟩ | ⟨j, e0, g1, g2, g3, _, g5⟩
      · refine ⟨setMap w b (ms.push { key := .int .i64 n, val := .bool c, born := clock }) (clock + 1), _, ?_, h, ?_, ev_setMap hdom hmm, hf _⟩
        · simp [Instr.mapUpdate, run_underlying hu, MapKept.run_getObj_map hmm, check_int hku, find_key hku g1, MapKept.run_setObj_map _ hmm, Result.andThen, setMap]
        · rw [g3]
          exact hrel_setMap hh hb hmm (by rw [Array.toList_push]; exact ents_app he ⟨rfl, rfl⟩)
      · have hj : ms[j]? = some e0 := by simpa using g2
        have hst : ∀ w : World, (Instr.keyThatStays (.int .i64 n) (.int .i64 n)).run P w = .ok (.int .i64 n) w := fun w => by simp [Instr.keyThatStays, Instr.sameBits]
        rw [Nat.zero_add] at g1
        refine ⟨setMap w b (ms.modify j (fun e' => { e' with key := .int .i64 n, val := .bool c })) clock, _, ?_, h, ?_, ev_setMap hdom hmm, hf _⟩
        · simp [Instr.mapUpdate, run_underlying hu, MapKept.run_getObj_map hmm, check_int hku, find_key hku g1, hj, g3, hst, MapKept.run_setObj_map _ hmm, Result.andThen, setMap]
        · rw [g5]
          refine hrel_setMap hh hb hmm ?_
          rw [modify_toList ms j _ hj]
          exact ents_set he j ⟨rfl, rfl⟩
  · exact h.elim
end Go.Sim
