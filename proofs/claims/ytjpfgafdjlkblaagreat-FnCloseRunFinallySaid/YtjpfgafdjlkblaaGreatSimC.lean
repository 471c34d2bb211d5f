/- The calculus: what each operation does to what is known, and that the model's operation does just that. No condition. -/
import Derived.Test.YtjpfgafdjlkblaaGreatSimB
import Derived.Laws.StructEq
import Derived.Laws.Concat
import Derived.Laws.Strings2
import Derived.Laws.Runes
import Derived.Laws.Cells
namespace Go.Sim
open Go

def ofCell : Value → AV
  | .slice none 0 0 => .vsl [] true
  | v => .lit v
def ofConst : Value → AV
  | .agg cs => if cs.toList.all Value.oneCell' then .agg (cs.toList.map ofCell) else .lit (.agg cs)
  | v => ofCell v
def ev (tm : Nat → AV) : Operand → AV
  | .tmp t => tm t
  | .const v => ofConst v
  | .global g => .lit (.pointer (some ⟨g, 0, Option.none⟩))
  | .func f => .fn f [] []

theorem rel_ofCell (O : Nat → Prop) (w : World) (v : Value) : Rel O w (ofCell v) v := by
  unfold ofCell
  split
  · exact .vnil true
  · exact .lit _

theorem rel_ofConst (O : Nat → Prop) (w : World) (v : Value) : Rel O w (ofConst v) v := by
  unfold ofConst
  split
  · rename_i cs
    split
    · rename_i h
      rw [List.all_eq_true] at h
      refine .agg _ cs (by simp) (fun i u hu => h u (List.mem_of_getElem? (by simpa using hu))) ?_
      intro i c u hc hu
      rw [List.getElem?_map] at hc
      have hu' : cs.toList[i]? = some u := by simpa using hu
      rw [hu'] at hc
      cases hc
      exact rel_ofCell O w u
    · exact .lit _
  · exact rel_ofCell O w v

theorem rel_ev {s : ASt} {a : Act} {w : World} (h : StRel s a w) (x : Operand) : Rel s.H.dom w (ev s.tm x) (a.eval x) := by
  cases x with
  | tmp t => exact h.tm t
  | const v => exact rel_ofConst _ _ v
  | global g => exact .lit _
  | func f => exact .fn f [] [] #[] #[] rfl rfl (fun i c v hc => by simp at hc) (fun i c v hc => by simp at hc)

/-! ### What is read off the program's table of types -/
structure TI where
  size : Nat
  bytes : Nat
  agg : Bool
  zero : List Value
def aggDesc : TypeDesc → Bool
  | .struct _ | .array _ _ => true
  | _ => false
def tinfo (P : Program) (t : TypeId) : Option TI :=
  match P.info? t, P.underlying t with
  | some i, some d => match i.zero with
    | some z => if (z.cells.size == i.size && z.cells.toList.all Value.oneCell') = true then some ⟨i.size, i.bytes, aggDesc d, z.cells.toList⟩ else none
    | none => none
  | _, _ => none
def telem (P : Program) (t : TypeId) : Option TypeId :=
  match P.underlying t with
  | some (.slice e) => some e
  | _ => none
def tarr (P : Program) (t : TypeId) : Option (Nat × TypeId) :=
  match P.underlying t with
  | some (.array n e) => some (n, e)
  | _ => none
def tstr (P : Program) (t : TypeId) : Bool :=
  match P.underlying t with
  | some .string => true
  | _ => false
def tbool (P : Program) (t : TypeId) : Bool :=
  match P.underlying t with
  | some .bool => true
  | _ => false
def tint (P : Program) (t : TypeId) : Option IntKind :=
  match P.underlying t with
  | some (.int k) => some k
  | _ => none
def tface (P : Program) (t : TypeId) : Bool :=
  match P.underlying t with
  | some (.interface _) => true
  | _ => false
def tfield (P : Program) (t : TypeId) (f : Nat) : Option (Nat × TypeId) :=
  match P.underlying t with
  | some (.struct fs) => match fs[f]? with
    | some f => some (f.offset, f.type)
    | none => none
  | _ => none

theorem tinfo_spec {P : Program} {t : TypeId} {ti : TI} (h : tinfo P t = some ti) :
    ∃ i d z, P.info? t = some i ∧ P.underlying t = some d ∧ i.zero = some z ∧ i.size = ti.size ∧ i.bytes = ti.bytes ∧ ti.agg = aggDesc d ∧ ti.zero = z.cells.toList ∧ z.cells.size = ti.size ∧ (∀ v ∈ z.cells.toList, v.oneCell' = true) := by
  unfold tinfo at h
  cases hi : P.info? t with
  | none => simp [hi] at h
  | some i =>
    cases hd : P.underlying t with
    | none => simp [hi, hd] at h
    | some d =>
      cases hz : i.zero with
      | none => simp [hi, hd, hz] at h
      | some z =>
        simp only [hi, hd, hz] at h
        split at h
        · rename_i hc
          rw [Bool.and_eq_true, beq_iff_eq, List.all_eq_true] at hc
          cases h
          exact ⟨i, d, z, rfl, rfl, hz, rfl, rfl, rfl, rfl, hc.1, hc.2⟩
        · cases h
theorem telem_spec {P : Program} {t e : TypeId} (h : telem P t = some e) : P.underlying t = some (.slice e) := by
  unfold telem at h; split at h <;> simp_all
theorem tarr_spec {P : Program} {t e : TypeId} {n : Nat} (h : tarr P t = some (n, e)) : P.underlying t = some (.array n e) := by
  unfold tarr at h; split at h <;> simp_all
theorem tstr_spec {P : Program} {t : TypeId} (h : tstr P t = true) : P.underlying t = some .string := by
  unfold tstr at h; split at h <;> simp_all
theorem tbool_spec {P : Program} {t : TypeId} (h : tbool P t = true) : P.underlying t = some .bool := by
  unfold tbool at h; split at h <;> simp_all
theorem tint_spec {P : Program} {t : TypeId} {k : IntKind} (h : tint P t = some k) : P.underlying t = some (.int k) := by
  unfold tint at h; split at h <;> simp_all
theorem tface_spec {P : Program} {t : TypeId} (h : tface P t = true) : ∃ ms, P.underlying t = some (.interface ms) := by
  unfold tface at h; split at h <;> simp_all
theorem tfield_spec {P : Program} {t : TypeId} {f o : Nat} {u : TypeId} (h : tfield P t f = some (o, u)) :
    ∃ (fs : Array Field) (g : Field), P.underlying t = some (.struct fs) ∧ fs[f]? = some g ∧ g.offset = o ∧ g.type = u := by
  unfold tfield at h
  split at h
  · rename_i fs hu
    cases hg : fs[f]? with
    | none => simp [hg] at h
    | some g => simp [hg] at h; exact ⟨fs, g, hu, hg, h.1, h.2⟩
  · cases h

/-! ### Outcomes -/
inductive Out (P : Program) (O : Nat → Prop) (w : World) (K : AV → AHeap → Prop) : Result Next → Prop where
  | value (r : AV) (H : AHeap) (v : Value) (w' : World) : K r H → Rel H.dom w' r v → HRel H w' → Ev O w w' → Fresh O H.dom w → Out P O w K (.ok (.value v) w')
  | skip (H : AHeap) (w' : World) : K (.lit undef) H → HRel H w' → Ev O w w' → Fresh O H.dom w → Out P O w K (.ok .skip w')
  | enter (f : FuncId) (args : Array Value) : Calls P f args w (fun e w' => ∃ (v : Value) (r : AV) (H : AHeap), e = .returned v ∧ K r H ∧ Rel H.dom w' r v ∧ HRel H w' ∧ Ev O w w' ∧ Fresh O H.dom w) → Out P O w K (.ok (.enter f args) w)

section
variable {P : Program} {s : ASt} {a : Act} {w : World} {K : AV → AHeap → Prop}
/-! ### Memory read -/
def rdA (H : AHeap) (p : AV) (n : Nat) : Option (List AV) :=
  match p with
  | .ptr b sz i j => match H b with
    | some k => if k.sz = sz then match k.es[i]? with
        | some r => if j + n ≤ r.length then some ((r.drop j).take n) else none
        | none => none
      else none
    | none => none
  | .vptr es i j => match es[i]? with
    | some r => if j + n ≤ r.length then some ((r.drop j).take n) else none
    | none => none
  | _ => none

theorem add_plain (b o n : Nat) : Addr.add ⟨b, o, none⟩ n = ⟨b, o + n, none⟩ := Addr.add_lit b o n

theorem row_cells {O : Nat → Prop} {w : World} {sz : Nat} {es : List (List AV)} {cs : List Value} (h : RowsRel O w sz es cs) {b o : Nat} (hc : ∀ (j : Nat) (v : Value), cs[j]? = some v → w.cell? ⟨b, o + j, none⟩ = some v)
    {i j n : Nat} {r : List AV} (hr : es[i]? = some r) (hj : j + n ≤ r.length) :
    ∃ cells : List Value, cells.length = n ∧ (∀ (q : Nat) (u : Value), cells[q]? = some u → w.cell? (Addr.add ⟨b, o + (i * sz + j), none⟩ q) = some u) ∧ (∀ u ∈ cells, u.oneCell' = true) ∧ RelL O w ((r.drop j).take n) cells := by
  have hg := h.get hr
  have hrl := h.row i r hr
  have hil := lt_of_get hr
  have hle : (i + 1) * sz ≤ es.length * sz := Nat.mul_le_mul_right sz hil
  rw [Nat.add_mul, Nat.one_mul] at hle
  refine ⟨(((cs.drop (i * sz)).take sz).drop j).take n, ?_, ?_, ?_, (hg.drop j).take n⟩
  · simp [h.len]; omega
  · intro q u hq
    rw [List.getElem?_take] at hq
    split at hq
    · rw [List.getElem?_drop, List.getElem?_take] at hq
      split at hq
      · rw [List.getElem?_drop] at hq
        rw [add_plain, ← hc _ u hq]
        congr 2; omega
      · cases hq
    · cases hq
  · intro u hu
    exact h.one (List.mem_of_mem_drop (List.mem_of_mem_take (List.mem_of_mem_drop (List.mem_of_mem_take hu))))

theorem rdA_sound {H : AHeap} {p : AV} {v : Value} {n : Nat} {row : List AV} (hr : Rel H.dom w p v) (hh : HRel H w) (h : rdA H p n = some row) :
    ∃ (ad : Addr) (cells : List Value), v = .pointer (some ad) ∧ cells.length = n ∧ (∀ (q : Nat) (u : Value), cells[q]? = some u → w.cell? (ad.add q) = some u) ∧ (∀ u ∈ cells, u.oneCell' = true) ∧ RelL H.dom w row cells := by
  unfold rdA at h
  cases hr with
  | ptr b sz i j hz =>
    simp only at h
    cases hb : H b with
    | none => simp [hb] at h
    | some k =>
      simp only [hb] at h
      split at h
      · rename_i hsz
        subst hsz
        cases hi : k.es[i]? with
        | none => simp [hi] at h
        | some r =>
          simp only [hi] at h
          split at h
          · rename_i hj
            cases h
            obtain ⟨c, h1, h2, h3⟩ := hh.rows hb hz
            have hc : ∀ (j : Nat) (v : Value), (c.toList.take (k.es.length * k.sz))[j]? = some v → w.cell? ⟨b, 0 + j, none⟩ = some v := by
              intro q u hq
              rw [List.getElem?_take] at hq
              split at hq
              · have : c[q]? = some u := by simpa using hq
                simp [World.cell?, h1, this]
              · cases hq
            obtain ⟨cells, g1, g2, g3, g4⟩ := row_cells h3 hc hi hj
            exact ⟨_, cells, rfl, g1, fun q u hq => by have := g2 q u hq; rwa [Nat.zero_add] at this, g3, g4⟩
          · cases h
      · cases h
  | vptr es i j b o sz g h1 h2 h3 h4 h5 h6 =>
    simp only at h
    cases hi : es[i]? with
    | none => simp [hi] at h
    | some r =>
      simp only [hi] at h
      split at h
      · rename_i hj
        cases h
        obtain ⟨cells, g1, g2, g3, g4⟩ := row_cells (rowsRel_of_g h3 h5 h6) (fun q u hq => cells_of_g (O := H.dom) h3 h4 q u hq) hi hj
        exact ⟨_, cells, rfl, g1, g2, g3, g4⟩
      · cases h
  | _ => cases h

def ldA (P : Program) (H : AHeap) (t : TypeId) (p : AV) : Option AV :=
  match tinfo P t with
  | some ti => if ti.agg then (match rdA H p ti.size with | some r => some (.agg r) | none => none) else (match rdA H p 1 with | some [x] => some x | _ => none)
  | none => none

theorem rel_agg {O : Nat → Prop} {r : List AV} {cells : List Value} (h : RelL O w r cells) (h1 : ∀ u ∈ cells, u.oneCell' = true) : Rel O w (.agg r) (.agg cells.toArray) :=
  .agg r cells.toArray (by simp [h.1]) (fun i v hv => h1 v (List.mem_of_getElem? (by simpa using hv))) (fun i c v hc hv => h.2 i c v hc (by simpa using hv))

theorem isAgg_run {t : TypeId} {d : TypeDesc} (hd : P.underlying t = some d) : (isAgg t).run P w = .ok (aggDesc d) w := by
  simp only [isAgg, Sem.run_bind, run_underlying hd, Result.andThen_ok]
  cases d <;> rfl
theorem sizeOf_run {t : TypeId} {i : TypeInfo} (hi : P.info? t = some i) : (sizeOf t).run P w = .ok i.size w := by
  simp [sizeOf, typeInfo, hi]

theorem ldA_sound {H : AHeap} {p r : AV} {v : Value} {t : TypeId} (hr : Rel H.dom w p v) (hh : HRel H w) (h : ldA P H t p = some r) :
    ∃ u, (Instr.loadAt t v).run P w = .ok u w ∧ Rel H.dom w r u := by
  unfold ldA at h
  cases ht : tinfo P t with
  | none => simp [ht] at h
  | some ti =>
    obtain ⟨i, d, z, hi, hd, hz, hsz, hby, hag, _⟩ := tinfo_spec ht
    simp only [ht] at h
    split at h
    · rename_i hagg
      cases hrd : rdA H p ti.size with
      | none => simp [hrd] at h
      | some row =>
        simp only [hrd] at h
        cases h
        obtain ⟨ad, cells, rfl, h1, h2, h3, h4⟩ := rdA_sound hr hh hrd
        have hl := run_loadCells_list (P := P) w ad cells h2
        rw [h1] at hl
        refine ⟨.agg cells.toArray, ?_, rel_agg h4 h3⟩
        rw [hag] at hagg
        simp [Instr.loadAt, Instr.sureAddr, loadVar, isAgg_run hd, hagg, sizeOf_run hi, hsz, hl]
    · rename_i hagg
      cases hrd : rdA H p 1 with
      | none => simp [hrd] at h
      | some row =>
        obtain ⟨ad, cells, rfl, h1, h2, h3, h4⟩ := rdA_sound hr hh hrd
        match row, cells, h4, h1, hrd with
        | [x], [u], h4, h1, hrd =>
          simp only [hrd] at h
          cases h
          have hc := h2 0 u rfl
          rw [Addr.add_zero'] at hc
          have hagg' : aggDesc d = false := by rw [← hag]; simpa using hagg
          refine ⟨u, ?_, h4.2 0 _ u rfl rfl⟩
          simp [Instr.loadAt, Instr.sureAddr, loadVar, isAgg_run hd, hagg', hc]
        | [], _, _, _, hrd => simp [hrd] at h
        | _ :: _ :: _, _, _, _, hrd => simp [hrd] at h
        | [_], [], h4, _, _ => exact absurd h4.1 (by simp)
        | [_], _ :: _ :: _, h4, _, _ => exact absurd h4.1 (by simp)

/-! ### Memory written -/
def wrA (H : AHeap) (p : AV) (row : List AV) : Option AHeap :=
  match p with
  | .ptr b sz i j => match H b with
    | some k => if k.sz = sz then match k.es[i]? with
        | some r => if j + row.length ≤ r.length then some (H.set b { k with es := k.es.set i (r.take j ++ row ++ r.drop (j + row.length)) }) else none
        | none => none
      else none
    | none => none
  | _ => none

theorem row_rel {O : Nat → Prop} {x : AV} {v : Value} (h : Rel O w x v) (h1 : x.row.all AV.one = true) : RelL O w x.row v.cells.toList ∧ ∀ u ∈ v.cells.toList, u.oneCell' = true := by
  cases h with
  | agg cs vs hs ho hr => exact ⟨⟨by simp [AV.row, Value.cells, hs], fun i c u hc hu => hr i c u hc (by simpa [Value.cells] using hu)⟩, fun u hu => by
      obtain ⟨j, hj⟩ := List.getElem?_of_mem hu
      exact ho j u (by simpa [Value.cells] using hj)⟩
  | lit v =>
    have hv : v.oneCell' = true := by simpa [AV.row, AV.one] using h1
    cases v <;> first | (simp [Value.oneCell'] at hv; done) | exact ⟨⟨rfl, fun i c u hc hu => by
        cases i with
        | zero => simp [AV.row, Value.cells] at hc hu; subst hc; subst hu; exact .lit _
        | succ i => simp [AV.row] at hc⟩, fun u hu => by simp [Value.cells] at hu; subst hu; exact hv⟩
  | top v => simp [AV.row, AV.one] at h1
  | tup cs vs hs hr => simp [AV.row, AV.one] at h1
  | fn f as bs us vs h2 h3 h4 h5 => exact ⟨.cons (.fn f as bs us vs h2 h3 h4 h5) (.nil _ _), fun u hu => by simp [Value.cells] at hu; subst hu; rfl⟩
  | ptr b sz i j hz => exact ⟨.cons (.ptr b sz i j hz) (.nil _ _), fun u hu => by simp [Value.cells] at hu; subst hu; rfl⟩
  | sl b sz off len cap cl c t fr h2 h3 h4 h5 h6 hz => exact ⟨.cons (.sl b sz off len cap cl c t fr h2 h3 h4 h5 h6 hz) (.nil _ _), fun u hu => by simp [Value.cells] at hu; subst hu; rfl⟩
  | vptr es i j b o sz g h2 h3 h4 h5 h6 h7 => exact ⟨.cons (.vptr es i j b o sz g h2 h3 h4 h5 h6 h7) (.nil _ _), fun u hu => by simp [Value.cells] at hu; subst hu; rfl⟩
  | vnil cl => exact ⟨.cons (.vnil cl) (.nil _ _), fun u hu => by simp [Value.cells] at hu; subst hu; rfl⟩
  | vsl es cl b o sz cap g h2 h3 h4 h5 h6 h7 h8 h9 h10 => exact ⟨.cons (.vsl es cl b o sz cap g h2 h3 h4 h5 h6 h7 h8 h9 h10) (.nil _ _), fun u hu => by simp [Value.cells] at hu; subst hu; rfl⟩
  | nonnil t v => exact ⟨.cons (.nonnil t v) (.nil _ _), fun u hu => by simp [Value.cells] at hu; subst hu; rfl⟩

theorem splice_row {α : Type} (l us : List α) (o j n m : Nat) (hj : j + us.length = m) (hm : m ≤ n) :
    (l.take (o + j) ++ us ++ l.drop (o + j + us.length)) = l.take o ++ (((l.drop o).take n).take j ++ us ++ ((l.drop o).take n).drop m) ++ l.drop (o + n) := by
  rw [List.take_take, Nat.min_eq_left (by omega), List.drop_take, List.drop_drop]
  simp only [List.append_assoc]
  rw [← List.append_assoc (l.take o), ← List.take_add, ← hj, Nat.add_assoc]
  congr 2
  have e : l.drop (o + n) = (l.drop (o + (j + us.length))).drop (n - (j + us.length)) := by rw [List.drop_drop]; congr 1; omega
  rw [e, List.take_append_drop]

theorem wrA_sound {H H' : AHeap} {p x : AV} {v u : Value} {t : TypeId} {ti : TI} (hr : Rel H.dom w p v) (hx : Rel H.dom w x u) (hh : HRel H w) (ht : tinfo P t = some ti) (hs : x.row.length = ti.size) (h1 : x.row.all AV.one = true)
    (h : wrA H p x.row = some H') : ∃ w', (Instr.storeAt t v u).run P w = .ok () w' ∧ HRel H' w' ∧ Ev H.dom w w' ∧ Fresh H.dom H'.dom w := by
  obtain ⟨i, d, z, hi, hd, hz, hsz, _⟩ := tinfo_spec ht
  obtain ⟨hrow, hone⟩ := row_rel hx h1
  have hlen : u.cells.toList.length = x.row.length := hrow.1
  unfold wrA at h
  cases hr with
  | ptr b sz p j hz =>
    simp only at h
    cases hb : H b with
    | none => simp [hb] at h
    | some k =>
      simp only [hb] at h
      split at h
      · rename_i hks
        subst hks
        cases hp : k.es[p]? with
        | none => simp [hp] at h
        | some r =>
          simp only [hp] at h
          split at h
          · rename_i hj
            cases h
            obtain ⟨c, g1, g2, g3⟩ := hh.rows hb hz
            have hpl := lt_of_get hp
            have hrl := g3.row p r hp
            have hle : (p + 1) * k.sz ≤ k.es.length * k.sz := Nat.mul_le_mul_right k.sz hpl
            rw [Nat.add_mul, Nat.one_mul] at hle
            have hcl : (c.toList.take (p * k.sz + j) ++ u.cells.toList ++ c.toList.drop (p * k.sz + j + u.cells.toList.length)).toArray.size = c.size := by
              have e3 : c.toList.length = c.size := Array.length_toList
              have e1 : p * k.sz + j ≤ c.toList.length := by omega
              have e2 : p * k.sz + j + u.cells.toList.length ≤ c.toList.length := by omega
              rw [List.size_toArray, List.length_append, List.length_append, List.length_take, List.length_drop, Nat.min_eq_left e1]
              omega
            have hst := run_storeCells_at P b (p * k.sz + j) k.ty u.cells.toList 0 c w g1 (by omega) hone
            simp only [Nat.add_zero] at hst
            refine ⟨w.setRow b (c.toList.take (p * k.sz + j) ++ u.cells.toList ++ c.toList.drop (p * k.sz + j + u.cells.toList.length)).toArray, ?_, ?_, ?_, ?_⟩
            · have hsize : u.cells.size = i.size := by rw [hsz, ← hs, ← hlen]; simp
              simp only [Instr.storeAt, Instr.sureAddr, Sem.run_bind, Sem.run_pure, Result.andThen_ok, storeVar, sizeOf_run hi, hsize, ne_eq, not_true_eq_false, if_false]
              exact hst
            · have hcs := hcl
              refine hrel_setRow hh (by exact hz) hb (k' := { k with es := k.es.set p (r.take j ++ x.row ++ r.drop (j + x.row.length)) }) g1 hcs rfl ?_ ?_
              · rw [hcs]; simpa using g2
              · simp only [List.length_set]
                have hset := g3.set hpl (r := r.take j ++ x.row ++ r.drop (j + x.row.length)) (us := ((((c.toList.take (k.es.length * k.sz)).drop (p * k.sz)).take k.sz).take j ++ u.cells.toList ++ (((c.toList.take (k.es.length * k.sz)).drop (p * k.sz)).take k.sz).drop (j + x.row.length)))
                  (by simp; omega) (((((g3.get hp).take j).append hrow).append ((g3.get hp).drop _))) (fun y hy => by
                    rw [List.mem_append, List.mem_append] at hy
                    rcases hy with (hy | hy) | hy
                    · exact g3.one (List.mem_of_mem_drop (List.mem_of_mem_take (List.mem_of_mem_take hy)))
                    · exact hone y hy
                    · exact g3.one (List.mem_of_mem_drop (List.mem_of_mem_take (List.mem_of_mem_drop hy))))
                have hsp := splice_row (c.toList.take (k.es.length * k.sz)) u.cells.toList (p * k.sz) j k.sz (j + x.row.length) (by rw [hlen]) (by omega)
                rw [← hsp] at hset
                have e : (c.toList.take (p * k.sz + j) ++ u.cells.toList ++ c.toList.drop (p * k.sz + j + u.cells.toList.length)).toArray.toList.take (k.es.length * k.sz) =
                    (c.toList.take (k.es.length * k.sz)).take (p * k.sz + j) ++ u.cells.toList ++ (c.toList.take (k.es.length * k.sz)).drop (p * k.sz + j + u.cells.toList.length) := by
                  simp only []
                  rw [List.take_take, Nat.min_eq_left (by omega), List.drop_take]
                  have l1 : (c.toList.take (p * k.sz + j) ++ u.cells.toList).length = p * k.sz + j + u.cells.toList.length := by
                    rw [List.length_append, List.length_take, Array.length_toList]; omega
                  rw [List.take_append, l1, List.take_of_length_le (by rw [l1]; omega)]
                rw [e]; exact hset
            · exact ev_setRow (by simp [AHeap.dom, hb]) g1 hcl
            · intro y hy
              rcases AHeap.dom_set hy with e | e
              · subst e; exact .inl (by simp [AHeap.dom, hb])
              · exact .inl e
          · cases h
      · cases h
  | _ => cases h

end
end Go.Sim
