/- The calculus: blocks made (variables, boxes, literals, make), places of fields and elements. No condition. -/
import Derived.Test.YtjpfgafdjlkblaaGreatSimC
namespace Go.Sim
open Go
section
variable {P : Program} {s : ASt} {a : Act} {w : World} {K : AV → AHeap → Prop}

/-! ### Cells put into a row -/
theorem foldl_put (us : List Value) : ∀ (off n : Nat) (cells : Array Value), off + n + us.length ≤ cells.size →
    ((us.zipIdx n).foldl (fun (cs : Array Value) (x : Value × Nat) => cs.setIfInBounds (off + x.2) x.1) cells).toList = cells.toList.take (off + n) ++ us ++ cells.toList.drop (off + n + us.length) := by
  induction us with
  | nil => intro off n cells _; simp
  | cons u us ih =>
    intro off n cells h
    simp only [List.length_cons] at h
    rw [List.zipIdx_cons, List.foldl_cons, ih off (n + 1) _ (by simp; omega)]
    simp only [Array.toList_setIfInBounds]
    rw [← Nat.add_assoc off n 1]
    exact list_seg_step cells.toList (off + n) u us (by simp; omega)

def spliceA (cells : List AV) (off : Nat) (row : List AV) : List AV := cells.take off ++ row ++ cells.drop (off + row.length)

def fillA (place : Nat → Option (Nat × Nat)) (cells : List AV) : List (Nat × AV) → Option (List AV)
  | [] => some cells
  | (i, x) :: rest => match place i with
    | none => none
    | some (off, size) => if x.row.length = size ∧ off + size ≤ cells.length ∧ x.row.all AV.one = true then fillA place (spliceA cells off x.row) rest else none

theorem relL_splice {O : Nat → Prop} {cs row : List AV} {vs us : List Value} (h : RelL O w cs vs) (k : RelL O w row us) (off : Nat) : RelL O w (spliceA cs off row) (vs.take off ++ us ++ vs.drop (off + us.length)) := by
  unfold spliceA
  rw [k.1]
  exact ((h.take off).append k).append (h.drop _)

theorem fillA_sound {O : Nat → Prop} {place : Nat → Option (Nat × Nat)} : ∀ (parts : List (Nat × AV)) (vals : List (Nat × Value)) (cs : List AV) (vs : Array Value) (r : List AV),
    vals.length = parts.length → (∀ (i : Nat) (x : Nat × AV) (u : Nat × Value), parts[i]? = some x → vals[i]? = some u → u.1 = x.1 ∧ Rel O w x.2 u.2) →
    RelL O w cs vs.toList → (∀ v ∈ vs.toList, v.oneCell' = true) → fillA place cs parts = some r →
    ∃ us : Array Value, Instr.fill place vs vals = some us ∧ RelL O w r us.toList ∧ (∀ v ∈ us.toList, v.oneCell' = true)
  | [], [], cs, vs, r, _, _, h, h1, hf => by
    simp only [fillA] at hf
    cases hf
    exact ⟨vs, rfl, h, h1⟩
  | [], _ :: _, _, _, _, hl, _, _, _, _ => by simp at hl
  | _ :: _, [], _, _, _, hl, _, _, _, _ => by simp at hl
  | (i, x) :: parts, (i', u) :: vals, cs, vs, r, hl, hp, h, h1, hf => by
    obtain ⟨e, hx⟩ := hp 0 (i, x) (i', u) rfl rfl
    simp only at e
    subst e
    simp only [fillA] at hf
    simp only [Instr.fill]
    cases hpl : place i' with
    | none => simp [hpl] at hf
    | some os =>
      obtain ⟨off, size⟩ := os
      simp only [hpl] at hf ⊢
      split at hf
      · rename_i hc
        obtain ⟨c1, c2, c3⟩ := hc
        obtain ⟨hr, ho⟩ := row_rel hx c3
        have hul : u.cells.toList.length = size := by rw [hr.1, c1]
        have hvl : vs.toList.length = cs.length := h.1
        have hus : u.cells.size = size := by rw [← hul, Array.length_toList]
        have hvs : vs.size = cs.length := by rw [← hvl, Array.length_toList]
        have hnot : ¬ (u.cells.size ≠ size ∨ off + u.cells.size > vs.size) := by rw [hus, hvs]; omega
        have hput := foldl_put u.cells.toList off 0 vs (by rw [hul, hvs]; omega)
        rw [Nat.add_zero] at hput
        have hfold : (u.cells.zipIdx.foldl (fun (cs : Array Value) (x : Value × Nat) => cs.setIfInBounds (off + x.2) x.1) vs).toList = vs.toList.take off ++ u.cells.toList ++ vs.toList.drop (off + u.cells.toList.length) := by
          rw [← hput, ← Array.foldl_toList, Array.toList_zipIdx]
        have ih := fillA_sound parts vals (spliceA cs off x.row) (u.cells.zipIdx.foldl (fun (cs : Array Value) (x : Value × Nat) => cs.setIfInBounds (off + x.2) x.1) vs) r (by simpa using hl)
          (fun k y v hy hv => hp (k + 1) y v (by simpa using hy) (by simpa using hv)) (by rw [hfold]; exact relL_splice h hr off)
          (fun v hv => by
            rw [hfold, List.mem_append, List.mem_append] at hv
            rcases hv with (hv | hv) | hv
            · exact h1 v (List.mem_of_mem_take hv)
            · exact ho v hv
            · exact h1 v (List.mem_of_mem_drop hv)) hf
        obtain ⟨us, g1, g2, g3⟩ := ih
        refine ⟨us, ?_, g2, g3⟩
        rw [← g1]
        simp only [Bool.or_eq_true, decide_eq_true_eq, ne_eq, gt_iff_lt] at hnot ⊢
        rw [if_neg (by simpa using hnot)]
      · cases hf

/-! ### New blocks -/
theorem rel_zero (O : Nat → Prop) (w : World) (l : List Value) : RelL O w (l.map ofCell) l := by
  refine ⟨by simp, fun i x v hx hv => ?_⟩
  rw [List.getElem?_map, hv] at hx
  cases hx
  exact rel_ofCell O w v

theorem rows_one {O : Nat → Prop} {n : Nat} {row : List AV} {us : List Value} (h : RelL O w row us) (h1 : ∀ u ∈ us, u.oneCell' = true) (hn : row.length = n) : RowsRel O w n [row] us := by
  refine ⟨by simp [h.1, hn], ?_, ?_⟩
  · intro p r hp
    cases p with
    | zero => cases hp; exact hn
    | succ p => simp at hp
  · intro p q r x hp hq
    cases p with
    | zero =>
      cases hp
      obtain ⟨v, hv, hr⟩ := h.get hq
      exact ⟨v, by simpa using hv, h1 v (List.mem_of_getElem? hv), hr⟩
    | succ p => simp at hp

theorem new_var {H : AHeap} (hh : HRel H w) {row : List AV} {us : List Value} (h : RelL H.dom w row us) (h1 : ∀ u ∈ us, u.oneCell' = true) {n : Nat} (hn : row.length = n) (hn0 : n ≠ 0) (t : TypeId) :
    HRel (H.set w.heap.size ⟨n, t, [row]⟩) (w.alloc (.cells us.toArray t)) := by
  refine hrel_alloc hh ⟨n, t, [row]⟩ hn0 us.toArray ?_ ?_
  · simp [h.1, hn]
  · have := rows_one h h1 hn
    simpa [h.1, hn, List.take_of_length_le] using this

def allocA (P : Program) (H : AHeap) (t : TypeId) (K : AV → AHeap → Prop) : Prop :=
  match tinfo P t with
  | some ti => ti.size ≠ 0 ∧ ∀ b, H b = none → K (.ptr b ti.size 0 0) (H.set b ⟨ti.size, t, [ti.zero.map ofCell]⟩)
  | none => False
def boxA (P : Program) (H : AHeap) (t : TypeId) (x : AV) (K : AV → AHeap → Prop) : Prop :=
  match tinfo P t with
  | some ti => ti.size ≠ 0 ∧ x.row.length = ti.size ∧ x.row.all AV.one = true ∧ ∀ b, H b = none → K (.ptr b ti.size 0 0) (H.set b ⟨ti.size, t, [x.row]⟩)
  | none => False

theorem HRel.fresh {H : AHeap} (h : HRel H w) : H w.heap.size = none := by
  cases hk : H w.heap.size with
  | none => rfl
  | some k => exact absurd (h.lt (b := w.heap.size) (by simp [AHeap.dom, hk])) (by omega)

theorem allocA_sound (h : StRel s a w) {t : TypeId} (hk : allocA P s.H t K) : ∃ v w' r H', (Instr.alloc t true (.tuple #[])).run P w = .ok v w' ∧ K r H' ∧ Rel H'.dom w' r v ∧ HRel H' w' ∧ Ev s.H.dom w w' ∧ Fresh s.H.dom H'.dom w := by
  unfold allocA at hk
  cases ht : tinfo P t with
  | none => simp [ht] at hk
  | some ti =>
    simp only [ht] at hk
    obtain ⟨hz0, hk⟩ := hk
    obtain ⟨i, d, z, hi, hd, hz, hsz, hby, hag, hzl, hzs, hz1⟩ := tinfo_spec ht
    have hrun : (Instr.alloc t true (.tuple #[])).run P w = .ok (.pointer (some ⟨w.heap.size, 0, none⟩)) (w.alloc (.cells z.cells t)) := by
      simp [Instr.alloc, zeroValue, typeInfo, hi, hz, newVar, newRow]
    have hn := new_var h.heap (rel_zero s.H.dom w ti.zero) (by rw [hzl]; exact hz1) (n := ti.size) (by rw [hzl]; simp [hzs]) hz0 t
    have e : ti.zero.toArray = z.cells := by rw [hzl]
    rw [e] at hn
    refine ⟨_, _, _, _, hrun, hk w.heap.size h.heap.fresh, ?_, hn, ev_alloc _ _ _, fresh_set_new _ _ _⟩
    have := Rel.ptr (O := (s.H.set w.heap.size ⟨ti.size, t, [ti.zero.map ofCell]⟩).dom) (w := w.alloc (.cells z.cells t)) w.heap.size ti.size 0 0 hz0
    simpa using this

theorem boxA_sound (h : StRel s a w) {t : TypeId} {x : AV} {u : Value} (hx : Rel s.H.dom w x u) (hk : boxA P s.H t x K) : ∃ v w' r H', (Instr.box t u).run P w = .ok v w' ∧ K r H' ∧ Rel H'.dom w' r v ∧ HRel H' w' ∧ Ev s.H.dom w w' ∧ Fresh s.H.dom H'.dom w := by
  unfold boxA at hk
  cases ht : tinfo P t with
  | none => simp [ht] at hk
  | some ti =>
    simp only [ht] at hk
    obtain ⟨hz0, h1, h2, hk⟩ := hk
    obtain ⟨hr, ho⟩ := row_rel hx h2
    have hn := new_var h.heap hr ho h1 hz0 t
    refine ⟨.pointer (some ⟨w.heap.size, 0, none⟩), _, _, _, ?_, hk w.heap.size h.heap.fresh, ?_, hn, ev_alloc _ _ _, fresh_set_new _ _ _⟩
    · simp [Instr.box, newVar, newRow]
    · have := Rel.ptr (O := (s.H.set w.heap.size ⟨ti.size, t, [x.row]⟩).dom) (w := w.alloc (.cells u.cells.toList.toArray t)) w.heap.size ti.size 0 0 hz0
      simpa using this

theorem rows_made (O : Nat → Prop) (w : World) (z : Array Value) (h1 : ∀ v ∈ z.toList, v.oneCell' = true) (n : Nat) : RowsRel O w z.size (List.replicate n (z.toList.map ofCell)) (madeCells z (n * z.size)).toList := by
  refine ⟨by simp [size_madeCells], ?_, ?_⟩
  · intro p r hp
    rw [List.getElem?_replicate] at hp
    split at hp
    · cases hp; simp
    · cases hp
  · intro p q r x hp hq
    rw [List.getElem?_replicate] at hp
    split at hp
    · rename_i hpn
      cases hp
      rw [List.getElem?_map] at hq
      cases hz : z.toList[q]? with
      | none => simp [hz] at hq
      | some v =>
        simp [hz] at hq
        subst hq
        have hql : q < z.size := by have := lt_of_get hz; simpa using this
        have hzq : z[q]? = some v := by simpa using hz
        have e2 : (p * z.size + q) % z.size = q := by rw [Nat.mul_comm, Nat.mul_add_mod, Nat.mod_eq_of_lt hql]
        refine ⟨v, ?_, h1 v (List.mem_of_getElem? hz), rel_ofCell O w v⟩
        have hlt := idx_lt hpn hql
        have hb : z[q]! = v := by rw [getElem!_def, hzq]
        simp [madeCells, hlt, e2, hb]
    · cases hp

theorem new_rows {H : AHeap} (hh : HRel H w) {sz : Nat} (hz0 : sz ≠ 0) {es : List (List AV)} {c : Array Value} (t : TypeId) (hs : es.length * sz ≤ c.size) (hr : RowsRel H.dom w sz es (c.toList.take (es.length * sz))) {n cap : Nat} (hn : n ≤ cap) (hm : cap ≤ maxLen) (hc : cap * sz ≤ c.size) (cl : Bool) (hcl : cl = true → cap = n) :
    HRel (H.set w.heap.size ⟨sz, t, es⟩) (w.alloc (.cells c t)) ∧ Rel (H.set w.heap.size ⟨sz, t, es⟩).dom (w.alloc (.cells c t)) (.sl w.heap.size sz 0 n cl) (.slice (some ⟨w.heap.size, 0, none⟩) n cap) ∧
      Ev H.dom w (w.alloc (.cells c t)) ∧ Fresh H.dom (H.set w.heap.size ⟨sz, t, es⟩).dom w := by
  refine ⟨hrel_alloc hh ⟨sz, t, es⟩ hz0 c hs hr, ?_, ev_alloc _ _ _, fresh_set_new _ _ _⟩
  have := Rel.sl (O := (H.set w.heap.size ⟨sz, t, es⟩).dom) (w := w.alloc (.cells c t)) w.heap.size sz 0 n cap cl c t (0, 0) hn hm hcl (heap_new w _) (by simpa using hc) hz0
  simpa using this

def buildRows (sz : Nat) : List (List AV) → List (Nat × AV) → Option (List (List AV))
  | rows, [] => some rows
  | rows, (i, x) :: rest => if x.row.length = sz ∧ i < rows.length ∧ x.row.all AV.one = true then buildRows sz (rows.set i x.row) rest else none

def buildSliceA (P : Program) (H : AHeap) (t : TypeId) (n : Nat) (parts : List (Nat × AV)) (K : AV → AHeap → Prop) : Prop :=
  match telem P t with
  | some e => match tinfo P e with
    | some ti => ti.size ≠ 0 ∧ n * ti.size ≤ 16777216 ∧ n ≤ maxLen ∧ (match buildRows ti.size (List.replicate n (ti.zero.map ofCell)) parts with
      | some rows => ∀ b, H b = none → K (.sl b ti.size 0 n true) (H.set b ⟨ti.size, e, rows⟩)
      | none => False)
    | none => False
  | none => False

theorem buildRows_sound {O : Nat → Prop} {sz : Nat} : ∀ (parts : List (Nat × AV)) (vals : List (Nat × Value)) (rows : List (List AV)) (vs : Array Value) (r : List (List AV)),
    vals.length = parts.length → (∀ (i : Nat) (x : Nat × AV) (u : Nat × Value), parts[i]? = some x → vals[i]? = some u → u.1 = x.1 ∧ Rel O w x.2 u.2) →
    RowsRel O w sz rows vs.toList → buildRows sz rows parts = some r →
    ∃ us : Array Value, Instr.fill (fun i => some (i * sz, sz)) vs vals = some us ∧ RowsRel O w sz r us.toList ∧ r.length = rows.length
  | [], [], rows, vs, r, _, _, h, hf => by
    simp only [buildRows] at hf
    cases hf
    exact ⟨vs, rfl, h, rfl⟩
  | [], _ :: _, _, _, _, hl, _, _, _ => by simp at hl
  | _ :: _, [], _, _, _, hl, _, _, _ => by simp at hl
  | (i, x) :: parts, (i', u) :: vals, rows, vs, r, hl, hp, h, hf => by
    obtain ⟨e, hx⟩ := hp 0 (i, x) (i', u) rfl rfl
    simp only at e
    subst e
    simp only [buildRows] at hf
    simp only [Instr.fill]
    split at hf
    · rename_i hc
      obtain ⟨c1, c2, c3⟩ := hc
      obtain ⟨hr, ho⟩ := row_rel hx c3
      have hul : u.cells.toList.length = sz := by rw [hr.1, c1]
      have hus : u.cells.size = sz := by rw [← hul, Array.length_toList]
      have hvs : vs.size = rows.length * sz := by rw [← h.len, Array.length_toList]
      have hle : (i' + 1) * sz ≤ rows.length * sz := Nat.mul_le_mul_right sz c2
      rw [Nat.add_mul, Nat.one_mul] at hle
      have hnot : ¬ (u.cells.size ≠ sz ∨ i' * sz + u.cells.size > vs.size) := by rw [hus, hvs]; omega
      have hput := foldl_put u.cells.toList (i' * sz) 0 vs (by rw [hul, hvs]; omega)
      rw [Nat.add_zero] at hput
      have hfold : (u.cells.zipIdx.foldl (fun (cs : Array Value) (x : Value × Nat) => cs.setIfInBounds (i' * sz + x.2) x.1) vs).toList = vs.toList.take (i' * sz) ++ u.cells.toList ++ vs.toList.drop (i' * sz + sz) := by
        rw [hul] at hput
        rw [← hput, ← Array.foldl_toList, Array.toList_zipIdx]
      obtain ⟨us, g1, g2, g3⟩ := buildRows_sound parts vals (rows.set i' x.row) (u.cells.zipIdx.foldl (fun (cs : Array Value) (x : Value × Nat) => cs.setIfInBounds (i' * sz + x.2) x.1) vs) r (by simpa using hl)
        (fun k y v hy hv => hp (k + 1) y v (by simpa using hy) (by simpa using hv)) (by rw [hfold]; exact h.set c2 c1 hr ho) hf
      refine ⟨us, ?_, g2, by simpa using g3⟩
      rw [← g1]
      simp only [Bool.or_eq_true, decide_eq_true_eq, ne_eq, gt_iff_lt] at hnot ⊢
      rw [if_neg (by simpa using hnot)]
    · cases hf

theorem buildSliceA_sound (h : StRel s a w) {t : TypeId} {n : Nat} {parts : List (Nat × AV)} {vals : Array (Nat × Value)} (hl : vals.toList.length = parts.length)
    (hp : ∀ (i : Nat) (x : Nat × AV) (u : Nat × Value), parts[i]? = some x → vals.toList[i]? = some u → u.1 = x.1 ∧ Rel s.H.dom w x.2 u.2) (hk : buildSliceA P s.H t n parts K) :
    ∃ v w' r H', (Instr.buildSlice t n vals).run P w = .ok v w' ∧ K r H' ∧ Rel H'.dom w' r v ∧ HRel H' w' ∧ Ev s.H.dom w w' ∧ Fresh s.H.dom H'.dom w := by
  unfold buildSliceA at hk
  cases he : telem P t with
  | none => simp [he] at hk
  | some e =>
    simp only [he] at hk
    cases ht : tinfo P e with
    | none => simp [ht] at hk
    | some ti =>
      simp only [ht] at hk
      obtain ⟨hz0, hb1, hb2, hk⟩ := hk
      obtain ⟨i, d, z, hi, hd, hz, hsz, hby, hag, hzl, hzs, hz1⟩ := tinfo_spec ht
      cases hbr : buildRows ti.size (List.replicate n (ti.zero.map ofCell)) parts with
      | none => simp [hbr] at hk
      | some rows =>
        simp only [hbr] at hk
        have hmade := rows_made s.H.dom w z.cells hz1 n
        rw [hzs, ← hzl] at hmade
        obtain ⟨us, g1, g2, g3⟩ := buildRows_sound parts vals.toList _ _ rows hl hp hmade hbr
        simp only [List.length_replicate] at g3
        have husl : us.size = n * ti.size := by rw [← Array.length_toList, g2.len, g3]
        have hnr := new_rows h.heap hz0 (es := rows) (c := us) (sz := ti.size) e (by rw [g3, husl]; exact Nat.le_refl _) (by rw [g3, ← husl, List.take_of_length_le (by simp)]; exact g2) (n := n) (cap := n) (Nat.le_refl _) hb2 (by rw [husl]; exact Nat.le_refl _) true (fun _ => rfl)
        obtain ⟨k1, k2, k3, k4⟩ := hnr
        refine ⟨_, _, _, _, ?_, hk w.heap.size h.heap.fresh, k2, k1, k3, k4⟩
        have hns : ¬ (16777216 < n * ti.size) := by omega
        by_cases h0 : n * ti.size = 0
        · rw [h0] at g1
          have g1' : Instr.fill (fun i => some (i * ti.size, ti.size)) #[] vals.toList = some us := by rw [← g1]; simp [madeCells, Array.range_zero']
          simp [Instr.buildSlice, run_underlying (telem_spec he), sizeOf_run hi, hsz, h0, Array.range_zero', g1', newRow]
        · have g1' : Instr.fill (fun i => some (i * ti.size, ti.size)) (Array.map (fun x => z.cells[x % z.cells.size]!) (Array.range (n * ti.size))) vals.toList = some us := g1
          simp [Instr.buildSlice, run_underlying (telem_spec he), sizeOf_run hi, hsz, h0, hns, zeroValue, typeInfo, hi, hz, g1', newRow]

def makeSliceA (P : Program) (H : AHeap) (t : TypeId) (l c : AV) (K : AV → AHeap → Prop) : Prop :=
  match telem P t, l, c with
  | some e, .lit (.int _ l), .lit (.int _ c) => match tinfo P e with
    | some ti => ti.size ≠ 0 ∧ 0 ≤ l ∧ l ≤ c ∧ (ti.bytes : Int) * c ≤ 281474976710656 ∧ c ≤ 9223372036854775807 ∧
      ∀ b, H b = none → K (.sl b ti.size 0 l.toNat false) (H.set b ⟨ti.size, e, List.replicate l.toNat (ti.zero.map ofCell)⟩)
    | none => False
  | _, _, _ => False

theorem take_made {z : Array Value} {n m : Nat} (h : n ≤ m) : (madeCells z m).toList.take n = (madeCells z n).toList := by
  apply List.ext_getElem?
  intro i
  rw [List.getElem?_take]
  split
  · rename_i hi
    have h1 : i < m := by omega
    simp [madeCells, h1, hi]
  · rename_i hi
    simp [madeCells, hi]

theorem makeSliceA_sound (h : StRel s a w) {t : TypeId} {l c : AV} {lv cv : Value} (hl : Rel s.H.dom w l lv) (hc : Rel s.H.dom w c cv) (hk : makeSliceA P s.H t l c K) :
    ∃ v w' r H', (Instr.makeSlice t lv cv).run P w = .ok v w' ∧ K r H' ∧ Rel H'.dom w' r v ∧ HRel H' w' ∧ Ev s.H.dom w w' ∧ Fresh s.H.dom H'.dom w := by
  unfold makeSliceA at hk
  split at hk
  · rename_i e kl l kc c he
    cases hl
    cases hc
    cases ht : tinfo P e with
    | none => simp [ht] at hk
    | some ti =>
      simp only [ht] at hk
      obtain ⟨hz0, h0, h1, h2, h3, hk⟩ := hk
      obtain ⟨i, d, z, hi, hd, hz, hsz, hby, hag, hzl, hzs, hz1⟩ := tinfo_spec ht
      have hr := run_make (P := P) w t e i z (telem_spec he) hi hz kl kc l c h0 h1 (by rw [hby]; exact h2) h3
      have hmade := rows_made s.H.dom w z.cells hz1 l.toNat
      rw [hzs, ← hzl] at hmade
      have hle : l.toNat * ti.size ≤ c.toNat * ti.size := Nat.mul_le_mul_right _ (by omega)
      have hnr := new_rows h.heap hz0 (es := List.replicate l.toNat (ti.zero.map ofCell)) (c := madeCells z.cells (c.toNat * i.size)) (sz := ti.size) e (by rw [size_madeCells, hsz]; simpa using hle)
        (by rw [List.length_replicate, hsz, take_made hle]; exact hmade) (n := l.toNat) (cap := c.toNat) (by omega) (by unfold maxLen; omega) (by rw [size_madeCells, hsz]; exact Nat.le_refl _) false (by simp)
      obtain ⟨k1, k2, k3, k4⟩ := hnr
      exact ⟨_, _, _, _, hr, hk w.heap.size h.heap.fresh, k2, k1, k3, k4⟩
  · cases hk

/-! ### Places of fields and elements -/
def fieldAddrA (P : Program) (t : TypeId) (x : AV) (f : Nat) : Option AV :=
  match tfield P t f with
  | some (o, u) => match tinfo P u with
    | some ti => if ti.size = 0 then none else match x with
      | .ptr b sz i j => some (.ptr b sz i (j + o))
      | .vptr es i j => some (.vptr es i (j + o))
      | _ => none
    | none => none
  | none => none

theorem fieldAddrA_sound {O : Nat → Prop} {t : TypeId} {x r : AV} {v : Value} {f : Nat} (hx : Rel O w x v) (h : fieldAddrA P t x f = some r) : ∃ u, (Instr.fieldAt t v f).run P w = .ok u w ∧ Rel O w r u := by
  unfold fieldAddrA at h
  split at h
  · rename_i o u hf
    obtain ⟨fs, g, hu, hg, rfl, rfl⟩ := tfield_spec hf
    split at h
    · rename_i ti ht
      obtain ⟨i, d, z, hi, hd, hz, hsz, _⟩ := tinfo_spec ht
      split at h
      · cases h
      · rename_i h0
        have h0' : ¬ i.size = 0 := by rw [hsz]; exact h0
        have run : ∀ ad : Addr, (Instr.fieldAt t (.pointer (some ad)) f).run P w = .ok (.pointer (some (ad.add g.offset))) w := by
          intro ad
          simp [Instr.fieldAt, run_underlying hu, hg, Instr.sureAddr, fieldPlace, sizeOf_run hi, h0']
        cases hx with
        | ptr b sz i j hz =>
          cases h
          refine ⟨_, run _, ?_⟩
          rw [add_plain, Nat.add_assoc]
          exact .ptr b sz i (j + g.offset) ‹_›
        | vptr es i j b o sz gg h1 h2 h3 h4 h5 h6 =>
          cases h
          refine ⟨_, run _, ?_⟩
          rw [add_plain, Nat.add_assoc, Nat.add_assoc]
          exact .vptr es i (j + g.offset) b o sz gg h1 h2 h3 h4 h5 h6
        | _ => cases h
    · cases h
  · cases h

def fieldA (P : Program) (t : TypeId) (x : AV) (f : Nat) : Option AV :=
  match tfield P t f with
  | some (o, u) => match tinfo P u with
    | some ti => match x with
      | .agg cs => if ti.agg then (if o + ti.size ≤ cs.length then some (.agg ((cs.drop o).take ti.size)) else none) else cs[o]?
      | _ => none
    | none => none
  | none => none

theorem fieldA_sound {O : Nat → Prop} {t : TypeId} {x r : AV} {v : Value} {f : Nat} (hx : Rel O w x v) (h : fieldA P t x f = some r) : ∃ u, (Instr.field t v f).run P w = .ok u w ∧ Rel O w r u := by
  unfold fieldA at h
  split at h
  · rename_i o u hf
    obtain ⟨fs, g, hu, hg, rfl, rfl⟩ := tfield_spec hf
    split at h
    · rename_i ti ht
      obtain ⟨i, d, z, hi, hd, hz, hsz, hby, hag, _⟩ := tinfo_spec ht
      cases hx with
      | agg cs vs hs ho hr =>
        simp only at h
        have hl : RelL O w cs vs.toList := ⟨by simp [hs], fun i c v hc hv => hr i c v hc (by simpa using hv)⟩
        split at h
        · rename_i ha
          split at h
          · rename_i hle
            cases h
            refine ⟨.agg (vs.extract g.offset (g.offset + ti.size)), ?_, ?_⟩
            · rw [hag] at ha
              simp [Instr.field, run_underlying hu, hg, asAgg, part, isAgg_run hd, ha, sizeOf_run hi, hsz]
            · have := rel_agg (((hl.drop g.offset).take ti.size)) (fun u hu => by
                obtain ⟨j, hj⟩ := List.getElem?_of_mem (List.mem_of_mem_drop (List.mem_of_mem_take hu))
                exact ho j u (by simpa using hj))
              have e : ((vs.toList.drop g.offset).take ti.size).toArray = vs.extract g.offset (g.offset + ti.size) := by
                apply Array.ext'
                simp [List.take_drop, Nat.add_comm]
              rwa [e] at this
          · cases h
        · rename_i ha
          have ha' : aggDesc d = false := by rw [← hag]; simpa using ha
          obtain ⟨u, hu1, hu2⟩ := hl.get h
          refine ⟨u, ?_, hu2⟩
          have : vs[g.offset]? = some u := by simpa using hu1
          simp [Instr.field, run_underlying hu, hg, asAgg, part, isAgg_run hd, ha', this]
      | _ => cases h
    · cases h
  · cases h

def indexAddrA (P : Program) (t : TypeId) (x i : AV) : Option AV :=
  match i with
  | .lit (.int _ n) => match telem P t with
    | some e => match tinfo P e with
      | some ti => match x with
        | .vsl es _ => if 0 ≤ n ∧ n < es.length then (match es[n.toNat]? with
            | some r => if r.length = ti.size ∧ 0 < ti.size then some (.vptr es n.toNat 0) else none
            | none => none) else none
        | .sl b sz off len _ => if 0 ≤ n ∧ n < len ∧ sz = ti.size then some (.ptr b sz (off + n.toNat) 0) else none
        | _ => none
      | none => none
    | none => match tarr P t with
      | some (m, e) => match tinfo P e with
        | some ti => match x with
          | .ptr b sz i j => if 0 ≤ n ∧ n < m then some (.ptr b sz i (j + n.toNat * ti.size)) else none
          | .vptr es i j => if 0 ≤ n ∧ n < m then some (.vptr es i (j + n.toNat * ti.size)) else none
          | _ => none
        | none => none
      | none => none
  | _ => none

theorem elem_slice {t e : TypeId} (h : P.underlying t = some (.slice e)) : P.elem t = e := by simp [Program.elem, h]

theorem indexAddrA_sound {O : Nat → Prop} {t : TypeId} {x i r : AV} {v iv : Value} (hx : Rel O w x v) (hi : Rel O w i iv) (h : indexAddrA P t x i = some r) : ∃ u, (Instr.indexAt t v iv).run P w = .ok u w ∧ Rel O w r u := by
  unfold indexAddrA at h
  cases hi with
  | lit iv =>
    cases iv with
    | int kk n =>
      simp only at h
      cases he : telem P t with
      | some e =>
        simp only [he] at h
        cases ht : tinfo P e with
        | none => simp [ht] at h
        | some ti =>
          simp only [ht] at h
          obtain ⟨i, d, z, hi, hd, hz, hsz, _⟩ := tinfo_spec ht
          have hu := telem_spec he
          have run : ∀ (ad : Addr) (len cap : Nat), 0 ≤ n ∧ n < len → (Instr.indexAt t (.slice (some ad) len cap) (.int kk n)).run P w = .ok (.pointer (some (ad.add (n.toNat * ti.size)))) w := by
            intro ad len cap hn
            rw [run_indexAt_slice w t ad len cap kk n (by rw [elem_slice hu]; exact hu), if_pos hn, elem_slice hu, sizeOf_run hi, hsz]
            rfl
          cases hx with
          | vsl es cl b o sz cap g h1 h2 h3 h4 h5 h6 h7 h8 h9 =>
            simp only at h
            split at h
            · rename_i hn
              cases hr : es[n.toNat]? with
              | none => simp [hr] at h
              | some row =>
                simp only [hr] at h
                split at h
                · rename_i hrl
                  cases h
                  refine ⟨_, run _ _ _ hn, ?_⟩
                  have e2 : sz = ti.size := by rw [← hrl.1]; exact (h6 _ _ hr).symm
                  rw [add_plain, ← e2]
                  have := Rel.vptr (O := O) (w := w) es n.toNat 0 b o sz g (h4 (by have := (List.getElem?_eq_some_iff.1 hr).1; omega)) h5 h6 h7 h8 h9
                  simpa using this
                · cases h
            · cases h
          | vnil cl =>
            simp only at h
            split at h
            · rename_i hn; simp at hn; omega
            · cases h
          | sl b sz off len cap cl c t' fr h1 h2 h3 h4 h5 hz0 =>
            simp only at h
            split at h
            · rename_i hn
              cases h
              refine ⟨_, run _ _ _ ⟨hn.1, hn.2.1⟩, ?_⟩
              rw [add_plain, ← hn.2.2, ← Nat.add_mul]
              have := Rel.ptr (O := O) (w := w) b sz (off + n.toNat) 0 hz0
              simpa using this
            · cases h
          | _ => cases h
      | none =>
        simp only [he] at h
        cases ha : tarr P t with
        | none => simp [ha] at h
        | some me =>
          obtain ⟨m, e⟩ := me
          simp only [ha] at h
          cases ht : tinfo P e with
          | none => simp [ht] at h
          | some ti =>
            simp only [ht] at h
            obtain ⟨i, d, z, hi, hd, hz, hsz, _⟩ := tinfo_spec ht
            have hu := tarr_spec ha
            have run : ∀ (ad : Addr), 0 ≤ n ∧ n < m → (Instr.indexAt t (.pointer (some ad)) (.int kk n)).run P w = .ok (.pointer (some (ad.add (n.toNat * ti.size)))) w := by
              intro ad hn
              have e1 : P.arrayLen t = m := by simp [Program.arrayLen, hu]
              have e2 : P.elem t = e := by simp [Program.elem, hu]
              rw [run_indexAt_array w t ad kk n (by rw [e1, e2]; exact hu), e1, if_pos hn, e2, sizeOf_run hi, hsz]
              rfl
            cases hx with
            | ptr b sz i j hz0 =>
              simp only at h
              split at h
              · rename_i hn
                cases h
                refine ⟨_, run _ hn, ?_⟩
                rw [add_plain, Nat.add_assoc]
                exact .ptr b sz i (j + n.toNat * ti.size) hz0
              · cases h
            | vptr es i j b o sz gg h1 h2 h3 h4 h5 h6 =>
              simp only at h
              split at h
              · rename_i hn
                cases h
                refine ⟨_, run _ hn, ?_⟩
                rw [add_plain, Nat.add_assoc, Nat.add_assoc]
                exact .vptr es i (j + n.toNat * ti.size) b o sz gg h1 h2 h3 h4 h5 h6
              · cases h
            | _ => cases h
    | _ => cases h
  | _ => cases h

end
end Go.Sim
