/- The calculus: rows for lists, strings, structs. No condition. -/
import Derived.Test.YtjpfgafdjlkblaaGreatSimN
namespace Go.Sim
open Go

def rI (i : Int) : List AV := [I i]
def rS (s : Str) : List AV := [S s]
def rU (c : UInt8) : List AV := [U8 c.toNat]
theorem rI_len (i : Int) : (rI i).length = 1 := rfl
theorem rS_len (i : Str) : (rS i).length = 1 := rfl
theorem rU_len (i : UInt8) : (rU i).length = 1 := rfl

section
variable {P : Program} {H : AHeap} {t e u : TypeId} {ti : TI} {α : Type} {f : α → List AV} {l : List α} {cl : Bool} {k kd kd' : IntKind} {n : Int}

def ldRow (P : Program) (t : TypeId) (row : List AV) (j : Nat) : Option AV :=
  match tinfo P t with
  | some ti => if ti.agg then (if j + ti.size ≤ row.length then some (.agg ((row.drop j).take ti.size)) else none) else row[j]?
  | none => none

theorem take_one_drop {β : Type} (r : List β) (j : Nat) : (if j + 1 ≤ r.length then some ((r.drop j).take 1) else none) = (r[j]?).map fun x => [x] := by
  split
  · rename_i h
    have : j < r.length := by omega
    rw [List.getElem?_eq_getElem this, List.drop_eq_getElem_cons this]
    rfl
  · rename_i h
    have : r.length ≤ j := by omega
    simp [this]

theorem ld_row (row : List AV) (j : Nat) : (match tinfo P t with
    | some ti => if ti.agg then (match (if j + ti.size ≤ row.length then some ((row.drop j).take ti.size) else none) with | some r => some (AV.agg r) | none => none) else (match (if j + 1 ≤ row.length then some ((row.drop j).take 1) else none) with | some [x] => some x | _ => none)
    | none => none) = ldRow P t row j := by
  unfold ldRow
  cases tinfo P t with
  | none => rfl
  | some ti =>
    simp only
    split
    · split <;> split <;> simp_all
    · rw [take_one_drop]
      cases row[j]? <;> rfl

theorem ld_vptr {es : List (List AV)} {row : List AV} {i j : Nat} (h : es[i]? = some row) : ldA P H t (.vptr es i j) = ldRow P t row j := by
  rw [← ld_row]; simp only [ldA, rdA, h]; rfl
theorem ld_ptr {b sz i j : Nat} {kb : ABlk} {row : List AV} (hb : H b = some kb) (hs : kb.sz = sz) (h : kb.es[i]? = some row) : ldA P H t (.ptr b sz i j) = ldRow P t row j := by
  rw [← ld_row]; simp only [ldA, rdA, hb, hs, h, if_true]; rfl
theorem ld_vptr_none {es : List (List AV)} {i j : Nat} (h : es[i]? = none) : ldA P H t (.vptr es i j) = none := by
  simp only [ldA, rdA, h]
  cases tinfo P t with
  | none => rfl
  | some ti => simp
theorem ld_ptr_none {b sz i j : Nat} {kb : ABlk} (hb : H b = some kb) (h : kb.es[i]? = none) : ldA P H t (.ptr b sz i j) = none := by
  simp only [ldA, rdA, hb, h]
  cases tinfo P t with
  | none => rfl
  | some ti => simp

theorem getD_getElem {l : List α} {i : Nat} {d : α} (h : i < l.length) : l[i]? = some (l.getD i d) := by simp [h]

theorem ldv [Inhabited α] {i j : Nat} : ldA P H t (.vptr (l.map f) i j) = if i < l.length then ldRow P t (f (l.getD i default)) j else none := by
  split
  · rename_i h
    exact ld_vptr (by rw [List.getElem?_map, getD_getElem h]; rfl)
  · rename_i h
    exact ld_vptr_none (by rw [List.getElem?_map]; simp; omega)
theorem ldp [Inhabited α] {b sz i j : Nat} (hb : H b = some ⟨sz, u, l.map f⟩) : ldA P H t (.ptr b sz i j) = if i < l.length then ldRow P t (f (l.getD i default)) j else none := by
  split
  · rename_i h
    exact ld_ptr hb rfl (by simp only [List.getElem?_map]; rw [getD_getElem h]; rfl)
  · rename_i h
    exact ld_ptr_none hb (by simp only [List.getElem?_map]; simp; omega)
theorem ld1 {b sz j : Nat} {row : List AV} (hb : H b = some ⟨sz, u, [row]⟩) : ldA P H t (.ptr b sz 0 j) = ldRow P t row j := ld_ptr hb rfl rfl
theorem ld1v {j : Nat} {row : List AV} : ldA P H t (.vptr [row] 0 j) = ldRow P t row j := ld_vptr rfl
theorem ld1s {b sz j : Nat} {row : List AV} : ldA P (H.set b ⟨sz, u, [row]⟩) t (.ptr b sz 0 j) = ldRow P t row j := ld_ptr (AHeap.set_self ..) rfl rfl

def stRow (row : List AV) (j : Nat) (x : List AV) : Option (List AV) := if j + x.length ≤ row.length then some (row.take j ++ x ++ row.drop (j + x.length)) else none
theorem wr1 {b sz j : Nat} {row x : List AV} (hb : H b = some ⟨sz, u, [row]⟩) : wrA H (.ptr b sz 0 j) x = (stRow row j x).map fun r => H.set b ⟨sz, u, [r]⟩ := by
  simp only [wrA, hb, if_true, List.getElem?_cons_zero, stRow]
  split <;> simp
theorem set_set {b : Nat} {k k' : ABlk} : (H.set b k).set b k' = H.set b k' := by
  funext c; simp only [AHeap.set]; split <;> rfl
theorem wr1s {b sz j : Nat} {row x : List AV} : wrA (H.set b ⟨sz, u, [row]⟩) (.ptr b sz 0 j) x = (stRow row j x).map fun r => H.set b ⟨sz, u, [r]⟩ := by
  rw [wr1 (AHeap.set_self ..)]
  simp only [set_set]

theorem ixv (he : telem P t = some e) (ht : tinfo P e = some ti) (hf : ∀ x, (f x).length = ti.size) (h0 : 0 < ti.size) : indexAddrA P t (.vsl (l.map f) cl) (.lit (.int kd n)) = if 0 ≤ n ∧ n < l.length then some (.vptr (l.map f) n.toNat 0) else none := by
  simp only [indexAddrA, he, ht, List.length_map]
  split
  · rename_i h
    have : n.toNat < l.length := by omega
    simp [this, hf, h0]
  · rfl
theorem ixs (he : telem P t = some e) (ht : tinfo P e = some ti) {b off len : Nat} : indexAddrA P t (.sl b ti.size off len cl) (.lit (.int kd n)) = if 0 ≤ n ∧ n < len then some (.ptr b ti.size (off + n.toNat) 0) else none := by
  simp only [indexAddrA, he, ht]
  split <;> split <;> simp_all
theorem str_data (s : Str) : (⟨s.toArray⟩ : ByteArray).data.toList = s := rfl
theorem ixS {s : Str} (ht : tstr P t = true) : indexA P t (S s) (.lit (.int kd n)) = if 0 ≤ n ∧ n < s.length then some (U8 (s.getD n.toNat 0).toNat) else none := by
  simp only [indexA, ht, str_data, true_and]
  split
  · rename_i h
    split
    · rename_i c hc
      obtain ⟨h1, h2⟩ := List.getElem?_eq_some_iff.1 hc
      rw [if_pos ⟨h, by omega⟩]
      simp [← h2, h1]
    · rename_i hc
      rw [List.getElem?_eq_none_iff] at hc
      rw [if_neg (by omega)]
  · rename_i h
    rw [if_neg (by omega)]
theorem lenS {s : Str} (ht : tstr P t = true) : lenA P t (S s) = some (I s.length) := by simp [lenA, ht, str_data]
theorem lenV {es : List (List AV)} (ht : telem P t = some e) : lenA P t (.vsl es cl) = some (I es.length) := by simp [lenA, ht]
theorem lenL {b sz off len : Nat} (ht : telem P t = some e) : lenA P t (.sl b sz off len cl) = some (I len) := by simp [lenA, ht]
theorem fa_p {o : Nat} {fd : Nat} {b sz i j : Nat} (h : tfield P t fd = some (o, u)) (ht : tinfo P u = some ti) (h0 : ti.size ≠ 0) : fieldAddrA P t (.ptr b sz i j) fd = some (.ptr b sz i (j + o)) := by simp [fieldAddrA, h, ht, h0]
theorem fa_v {o : Nat} {fd : Nat} {es : List (List AV)} {i j : Nat} (h : tfield P t fd = some (o, u)) (ht : tinfo P u = some ti) (h0 : ti.size ≠ 0) : fieldAddrA P t (.vptr es i j) fd = some (.vptr es i (j + o)) := by simp [fieldAddrA, h, ht, h0]
theorem row_lit {v : Value} : AV.row (.lit v) = [.lit v] := rfl
theorem row_agg {r : List AV} : AV.row (.agg r) = r := rfl
theorem row_vsl {r : List (List AV)} : AV.row (.vsl r cl) = [.vsl r cl] := rfl
theorem row_sl {b sz off len : Nat} : AV.row (.sl b sz off len cl) = [.sl b sz off len cl] := rfl
theorem row_ptr {b sz i j : Nat} : AV.row (.ptr b sz i j) = [.ptr b sz i j] := rfl
theorem row_fn {g : FuncId} {fs cs : List AV} : AV.row (.fn g fs cs) = [.fn g fs cs] := rfl
theorem one_I {k : IntKind} {i : Int} : AV.one (.lit (.int k i)) = true := rfl
theorem one_B {b : Bool} : AV.one (B b) = true := rfl
theorem one_S {s : ByteArray} : AV.one (.lit (.string s)) = true := rfl
theorem one_vsl {r : List (List AV)} : AV.one (.vsl r cl) = true := rfl
theorem one_sl {b sz off len : Nat} : AV.one (.sl b sz off len cl) = true := rfl
theorem one_ptr {b sz i j : Nat} : AV.one (.ptr b sz i j) = true := rfl
theorem one_fn {g : FuncId} {fs cs : List AV} : AV.one (.fn g fs cs) = true := rfl

theorem w64 {a : Int} (h : -9223372036854775808 ≤ a) (h2 : a < 9223372036854775808) : IntKind.wrap .i64 a = a := by
  simp only [IntKind.wrap, IntKind.signed, IntKind.bits]
  simp
  omega
end
end Go.Sim
