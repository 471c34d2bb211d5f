/- The calculus: numbers, strings, comparisons, conversions, cuts, append, len. No condition. -/
import Derived.Test.YtjpfgafdjlkblaaGreatSimD
namespace Go.Sim
open Go

abbrev Str := List UInt8
abbrev S (l : List UInt8) : AV := .lit (.string ⟨l.toArray⟩)
abbrev I (n : Int) : AV := .lit (.int .i64 n)
abbrev U8 (n : Int) : AV := .lit (.int .u8 n)
abbrev B (b : Bool) : AV := .lit (.bool b)

def intBin (op : BinOp) (k : IntKind) (a b : Int) : Option Value :=
  match op with
  | .add => some (.int k (k.wrap (a + b)))
  | .sub => some (.int k (k.wrap (a - b)))
  | .mul => some (.int k (k.wrap (a * b)))
  | .quo => if b = 0 then none else some (.int k (k.wrap (a.tdiv b)))
  | .rem => if b = 0 then none else some (.int k (a.tmod b))
  | .and => some (.int k (bits .and k a b))
  | .or => some (.int k (bits .or k a b))
  | .xor => some (.int k (bits .xor k a b))
  | .andNot => some (.int k (bits .andNot k a b))
  | .eql => some (.bool (decide (a = b)))
  | .neq => some (.bool (!decide (a = b)))
  | .lss => some (.bool (decide (a < b)))
  | .leq => some (.bool (decide (a ≤ b)))
  | .gtr => some (.bool (decide (b < a)))
  | .geq => some (.bool (decide (b ≤ a)))
  | _ => none
def intShift (op : BinOp) (k : IntKind) (a b : Int) : Option Value :=
  if b < 0 then none else match op with
  | .shl => some (.int k (k.wrap (a * 2 ^ (min b.toNat k.bits))))
  | .shr => some (.int k (a.fdiv (2 ^ (min b.toNat k.bits))))
  | _ => none
def strBin (op : BinOp) (a b : List UInt8) : Option Value :=
  match op with
  | .add => if a.length + b.length ≤ 9223372036854775807 then some (.string ⟨(a ++ b).toArray⟩) else none
  | .eql => some (.bool (decide (a = b)))
  | .neq => some (.bool (!decide (a = b)))
  | _ => none
def boolBin (op : BinOp) (a b : Bool) : Option Value :=
  match op with
  | .eql => some (.bool (a == b))
  | .neq => some (.bool (!(a == b)))
  | _ => none

/-! ### Structs compared -/
inductive CK where
  | b
  | i
  | s
def eqCellV : CK → Value → Value → Option Bool
  | .i, .int k a, .int k' b => if k = k' then some (decide (a = b)) else none
  | .s, .string a, .string b => some (decide (a.data.toList = b.data.toList))
  | .b, .bool a, .bool b => some (a == b)
  | _, _, _ => none
def eqV : List CK → List Value → List Value → Option Bool
  | [], [], [] => some true
  | k :: ks, a :: as, b :: bs => match eqCellV k a b, eqV ks as bs with
    | some r, some s => some (r && s)
    | _, _ => none
  | _, _, _ => none
def eqA : List CK → List AV → List AV → Option Bool
  | [], [], [] => some true
  | k :: ks, .lit a :: as, .lit b :: bs => match eqCellV k a b, eqA ks as bs with
    | some r, some s => some (r && s)
    | _, _ => none
  | _, _, _ => none
theorem eqA_sound {O : Nat → Prop} {w : World} : ∀ (ks : List CK) (xs ys : List AV) (us vs : List Value) (r : Bool), RelL O w xs us → RelL O w ys vs → eqA ks xs ys = some r → eqV ks us vs = some r := by
  intro ks
  induction ks with
  | nil =>
    intro xs ys us vs r h k e
    cases xs with
    | nil => cases ys with
      | nil =>
        have h1 : us = [] := List.eq_nil_of_length_eq_zero (by simpa using h.1)
        have h2 : vs = [] := List.eq_nil_of_length_eq_zero (by simpa using k.1)
        subst h1; subst h2; exact e
      | cons y ys => simp [eqA] at e
    | cons x xs => simp [eqA] at e
  | cons c ks ih =>
    intro xs ys us vs r h k e
    cases xs with
    | nil => simp [eqA] at e
    | cons x xs => cases ys with
      | nil => cases x <;> simp [eqA] at e
      | cons y ys =>
        match us, vs, h, k with
        | u :: us, v :: vs, h, k =>
          have hx := h.2 0 x u rfl rfl
          have hy := k.2 0 y v rfl rfl
          have ht : RelL O w xs us := by simpa using h.drop 1
          have kt : RelL O w ys vs := by simpa using k.drop 1
          cases x <;> cases y <;> first | (simp [eqA] at e; done) | skip
          cases hx
          cases hy
          simp only [eqA] at e
          cases hc : eqCellV c u v with
          | none => simp [hc] at e
          | some rr =>
            cases hs : eqA ks xs ys with
            | none => simp [hc, hs] at e
            | some ss =>
              simp only [hc, hs] at e
              cases e
              simp only [eqV, hc, ih xs ys us vs ss ht kt hs]
        | [], _, h, _ => exact absurd h.1 (by simp)
        | _ :: _, [], _, k => exact absurd k.1 (by simp)

def flatFields (F : TypeId → Option (List CK)) (sz : TypeId → Option Nat) : List Field → Nat → Option (List CK)
  | [], _ => some []
  | f :: fs, off => if f.name = "_" ∨ f.offset ≠ off then none else match F f.type with
    | some ks => if sz f.type = some ks.length then (match flatFields F sz fs (off + ks.length) with
      | some r => some (ks ++ r)
      | none => none) else none
    | none => none
def flatEq (P : Program) : Nat → TypeId → Option (List CK)
  | 0, _ => none
  | d + 1, t => match P.underlying t with
    | some .bool => some [.b]
    | some (.int _) => some [.i]
    | some .string => some [.s]
    | some (.struct fs) => if P.stoodInHeld t then none else flatFields (flatEq P d) (fun u => (P.info? u).map (·.size)) fs.toList 0
    | _ => none
def teq (P : Program) (t : TypeId) : Option (List CK) := if P.eqGuardType P.depth t then none else match P.underlying t with
  | some (.struct _) => flatEq P 6 t
  | _ => none

section
variable {P : Program} {s : ASt} {a : Act} {w : World} {K : AV → AHeap → Prop}

theorem eqV_len : ∀ (ks : List CK) (us vs : List Value) (r : Bool), eqV ks us vs = some r → us.length = ks.length ∧ vs.length = ks.length
  | [], [], [], _, _ => ⟨rfl, rfl⟩
  | [], [], _ :: _, _, h => by simp [eqV] at h
  | [], _ :: _, _, _, h => by simp [eqV] at h
  | _ :: _, [], _, _, h => by simp [eqV] at h
  | _ :: _, _ :: _, [], _, h => by simp [eqV] at h
  | k :: ks, u :: us, v :: vs, r, h => by
    simp only [eqV] at h
    cases hc : eqCellV k u v with
    | none => simp [hc] at h
    | some q =>
      cases hs : eqV ks us vs with
      | none => simp [hc, hs] at h
      | some ss =>
        obtain ⟨h1, h2⟩ := eqV_len ks us vs ss hs
        simp [h1, h2]

theorem eqV_split : ∀ (k1 k2 : List CK) (us vs : List Value) (r : Bool), eqV (k1 ++ k2) us vs = some r → ∃ r1 r2, eqV k1 (us.take k1.length) (vs.take k1.length) = some r1 ∧ eqV k2 (us.drop k1.length) (vs.drop k1.length) = some r2 ∧ r = (r1 && r2)
  | [], k2, us, vs, r, h => ⟨true, r, by simp [eqV], by simpa using h, by simp⟩
  | k :: k1, k2, [], _, r, h => by simp [eqV] at h
  | k :: k1, k2, _ :: _, [], r, h => by simp [eqV] at h
  | k :: k1, k2, u :: us, v :: vs, r, h => by
    simp only [List.cons_append, eqV] at h
    cases hc : eqCellV k u v with
    | none => simp [hc] at h
    | some q =>
      cases hs : eqV (k1 ++ k2) us vs with
      | none => simp [hc, hs] at h
      | some ss =>
        simp only [hc, hs] at h
        cases h
        obtain ⟨r1, r2, h1, h2, rfl⟩ := eqV_split k1 k2 us vs ss hs
        exact ⟨q && r1, r2, by simp [eqV, hc, h1], by simpa using h2, by rw [Bool.and_assoc]⟩

theorem beq_data (a b : ByteArray) : (a.toList == b.toList) = decide (a.data.toList = b.data.toList) := by
  rw [ByteArray.toList_eq, ByteArray.toList_eq, Bool.eq_iff_iff]
  simp

theorem part_scalar {t : TypeId} {d : TypeDesc} (hd : P.underlying t = some d) (ha : aggDesc d = false) {xs : Array Value} {off : Nat} {u : Value} (h : xs.toList[off]? = some u) : (part t xs off).run P w = .ok u w := by
  have : xs[off]? = some u := by simpa using h
  simp [part, isAgg_run hd, ha, this]

theorem part_agg {t : TypeId} {d : TypeDesc} {i : TypeInfo} (hd : P.underlying t = some d) (hi : P.info? t = some i) (ha : aggDesc d = true) (xs : Array Value) (off : Nat) : (part t xs off).run P w = .ok (.agg (xs.extract off (off + i.size))) w := by
  simp [part, isAgg_run hd, ha, sizeOf_run hi]

theorem one_cell {k : CK} {off : Nat} {xs ys : Array Value} {r : Bool} (hx : off + 1 ≤ xs.toList.length) (hy : off + 1 ≤ ys.toList.length)
    (he : eqV [k] ((xs.toList.drop off).take 1) ((ys.toList.drop off).take 1) = some r) : ∃ u v, xs.toList[off]? = some u ∧ ys.toList[off]? = some v ∧ eqCellV k u v = some r := by
  have hx1 : off < xs.toList.length := by omega
  have hy1 : off < ys.toList.length := by omega
  have e1 : (xs.toList.drop off).take 1 = [xs.toList[off]] := by rw [List.drop_eq_getElem_cons hx1]; simp
  have e2 : (ys.toList.drop off).take 1 = [ys.toList[off]] := by rw [List.drop_eq_getElem_cons hy1]; simp
  rw [e1, e2] at he
  refine ⟨xs.toList[off], ys.toList[off], by rw [List.getElem?_eq_getElem hx1], by rw [List.getElem?_eq_getElem hy1], ?_⟩
  simp only [eqV] at he
  cases hc : eqCellV k xs.toList[off] ys.toList[off] with
  | none => rw [hc] at he; cases he
  | some q => rw [hc] at he; simpa using he

theorem flat_fields {d D : Nat} (ih : ∀ (t : TypeId) (ks : List CK) (off : Nat) (xs ys : Array Value) (r : Bool), flatEq P d t = some ks → (P.info? t).map (·.size) = some ks.length → off + ks.length ≤ xs.toList.length → off + ks.length ≤ ys.toList.length →
      eqV ks ((xs.toList.drop off).take ks.length) ((ys.toList.drop off).take ks.length) = some r →
      ∃ p q, (part t xs off).run P w = .ok p w ∧ (part t ys off).run P w = .ok q w ∧ (Op.equalIn D t p q).run P w = .ok r w) :
    ∀ (fs : List Field) (ks : List CK) (off : Nat) (xs ys : Array Value) (r : Bool), flatFields (flatEq P d) (fun u => (P.info? u).map (·.size)) fs off = some ks → off + ks.length ≤ xs.toList.length → off + ks.length ≤ ys.toList.length →
      eqV ks ((xs.toList.drop off).take ks.length) ((ys.toList.drop off).take ks.length) = some r → (Op.eqFields D xs ys fs).run P w = .ok r w := by
  intro fs
  induction fs with
  | nil =>
    intro ks off xs ys r h hx hy he
    simp only [flatFields] at h
    cases h
    simp [eqV] at he
    subst he
    simp [Op.eqFields]
  | cons f fs ihf =>
    intro ks off xs ys r h hx hy he
    simp only [flatFields] at h
    split at h
    · cases h
    · rename_i hn
      have hname : f.name ≠ "_" := fun e => hn (.inl e)
      have hoff : f.offset = off := Classical.not_not.1 (fun e => hn (.inr e))
      cases hk : flatEq P d f.type with
      | none => simp [hk] at h
      | some k1 =>
        simp only [hk] at h
        split at h
        · rename_i hsz
          cases hr : flatFields (flatEq P d) (fun u => (P.info? u).map (·.size)) fs (off + k1.length) with
          | none => simp [hr] at h
          | some k2 =>
            simp only [hr] at h
            cases h
            simp only [List.length_append] at hx hy he
            obtain ⟨r1, r2, h1, h2, rfl⟩ := eqV_split k1 k2 _ _ r he
            rw [List.take_take, List.take_take, Nat.min_eq_left (by omega)] at h1
            rw [List.drop_take, List.drop_take, List.drop_drop, List.drop_drop, Nat.add_sub_cancel_left] at h2
            obtain ⟨p, q, g1, g2, g3⟩ := ih f.type k1 off xs ys r1 hk hsz (by omega) (by omega) h1
            have g4 := ihf k2 (off + k1.length) xs ys r2 hr (by omega) (by omega) h2
            simp only [Op.eqFields, if_pos hname, Sem.run_bind, hoff, g1, g2, g3, Result.andThen_ok]
            cases r1
            · simp
            · simpa using g4
        · cases h

theorem flat_parts : ∀ (d D : Nat), d ≤ D → ∀ (t : TypeId) (ks : List CK) (off : Nat) (xs ys : Array Value) (r : Bool), flatEq P d t = some ks → (P.info? t).map (·.size) = some ks.length → off + ks.length ≤ xs.toList.length → off + ks.length ≤ ys.toList.length →
    eqV ks ((xs.toList.drop off).take ks.length) ((ys.toList.drop off).take ks.length) = some r →
    ∃ p q, (part t xs off).run P w = .ok p w ∧ (part t ys off).run P w = .ok q w ∧ (Op.equalIn D t p q).run P w = .ok r w := by
  intro d
  induction d with
  | zero => intro D _ t ks off xs ys r h; simp [flatEq] at h
  | succ d ih =>
    intro D hD t ks off xs ys r h hsz hx hy he
    obtain ⟨D, rfl⟩ : ∃ m, D = m + 1 := ⟨D - 1, by omega⟩
    simp only [flatEq] at h
    split at h
    · rename_i hu
      cases h
      obtain ⟨u, v, h1, h2, h3⟩ := one_cell hx hy he
      refine ⟨u, v, part_scalar hu rfl h1, part_scalar hu rfl h2, ?_⟩
      cases u <;> cases v <;> first | (simp [eqCellV] at h3; done) | skip
      simp only [eqCellV] at h3
      cases h3
      exact run_equalIn_bool' w D t _ _ hu
    · rename_i kk hu
      cases h
      obtain ⟨u, v, h1, h2, h3⟩ := one_cell hx hy he
      refine ⟨u, v, part_scalar hu rfl h1, part_scalar hu rfl h2, ?_⟩
      cases u <;> cases v <;> first | (simp [eqCellV] at h3; done) | skip
      simp only [eqCellV] at h3
      split at h3
      · rename_i e
        subst e
        cases h3
        exact run_equalIn_int w D t _ kk _ _ hu
      · cases h3
    · rename_i hu
      cases h
      obtain ⟨u, v, h1, h2, h3⟩ := one_cell hx hy he
      refine ⟨u, v, part_scalar hu rfl h1, part_scalar hu rfl h2, ?_⟩
      cases u <;> cases v <;> first | (simp [eqCellV] at h3; done) | skip
      simp only [eqCellV] at h3
      cases h3
      rw [run_equalIn_string w D t _ _ hu, beq_data]
    · rename_i fs hu
      split at h
      · cases h
      · rename_i hp
        cases hi : P.info? t with
        | none => simp [hi] at hsz
        | some i =>
          have hisz : i.size = ks.length := by simpa [hi] using hsz
          refine ⟨_, _, part_agg hu hi rfl xs off, part_agg hu hi rfl ys off, ?_⟩
          have hf : P.fieldsOf t = fs := by simp [Program.fieldsOf, hu]
          rw [run_equalIn_struct w D t _ _ (by rw [hf]; exact hu) (by simpa using hp), hf]
          refine flat_fields (w := w) (d := d) (D := D) (fun t ks off xs ys r => ih D (by omega) t ks off xs ys r) fs.toList ks 0 _ _ r h (by simp [hisz] at hx ⊢; omega) (by simp [hisz] at hy ⊢; omega) ?_
          have e : ∀ zs : Array Value, (((zs.extract off (off + i.size)).toList.drop 0).take ks.length) = (zs.toList.drop off).take ks.length := by
            intro zs
            simp [hisz, List.take_drop, List.take_take]
          rw [e, e]; exact he
    · cases h

theorem teq_run {t : TypeId} {ks : List CK} {xs ys : Array Value} {r : Bool} (h : teq P t = some ks) (hx : eqV ks xs.toList ys.toList = some r) :
    (Op.equalIn 10000 t (.agg xs) (.agg ys)).run P w = .ok r w ∧ P.eqGuardType P.depth t = false := by
  unfold teq at h
  split at h
  · cases h
  · rename_i hg
    refine ⟨?_, by simpa using hg⟩
    split at h
    · rename_i fs hu
      obtain ⟨l1, l2⟩ := eqV_len ks _ _ r hx
      simp only [flatEq, hu] at h
      split at h
      · cases h
      · rename_i hp
        have hf : P.fieldsOf t = fs := by simp [Program.fieldsOf, hu]
        rw [run_equalIn_struct w 9999 t _ _ (by rw [hf]; exact hu) (by simpa using hp), hf]
        refine flat_fields (w := w) (d := 5) (D := 9999) (flat_parts 5 9999 (by omega)) fs.toList ks 0 xs ys r h (by omega) (by omega) ?_
        rw [List.drop_zero, List.drop_zero, List.take_of_length_le (by omega), List.take_of_length_le (by omega)]
        exact hx
    · cases h

end
end Go.Sim
