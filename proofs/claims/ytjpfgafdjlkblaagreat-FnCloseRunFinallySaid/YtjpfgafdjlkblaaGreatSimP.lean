/- The calculus: lengths are bounded; searches in lists. No condition. -/
import Derived.Test.YtjpfgafdjlkblaaGreatSimO
namespace Go.Sim
open Go

theorem rel_vlen {O : Nat → Prop} {w : World} {es : List (List AV)} {cl : Bool} {v : Value} (h : Rel O w (.vsl es cl) v) : es.length ≤ 9223372036854775807 := by
  cases h with
  | vnil => simp
  | vsl es cl b o sz cap g h1 h2 => have : maxLen = 9223372036854775807 := rfl; omega
section
variable {P : Program} {f : FuncId} {args : List AV} {H : AHeap} {Q : AV → AHeap → Prop} {n : Nat} {tm : Tm} {K : APost}
theorem acalls_len {es : List (List AV)} {cl : Bool} (hB : hasBody P f = true) (hm : AV.vsl es cl ∈ args) (h : es.length ≤ 9223372036854775807 → ACalls P f args H Q) : ACalls P f args H Q := by
  refine ⟨hB, fun w vs h1 h2 => ?_⟩
  obtain ⟨i, hi⟩ := List.getElem?_of_mem hm
  obtain ⟨v, _, hv⟩ := h2.get hi
  exact (h (rel_vlen hv)).2 w vs h1 h2
theorem acalls_len1 {es : List (List AV)} {cl : Bool} {r : List AV} (hB : hasBody P f = true) (hm : AV.agg (.vsl es cl :: r) ∈ args) (h : es.length ≤ 9223372036854775807 → ACalls P f args H Q) : ACalls P f args H Q := by
  refine ⟨hB, fun w vs h1 h2 => ?_⟩
  obtain ⟨i, hi⟩ := List.getElem?_of_mem hm
  obtain ⟨v, _, hv⟩ := h2.get hi
  cases hv with
  | agg cs us e1 e2 e3 =>
    have : 0 < us.size := by rw [e1]; simp
    exact (h (rel_vlen (e3 0 _ us[0] rfl (by simp [this])))).2 w vs h1 h2
theorem sim_len {c : Code} {es : List (List AV)} {cl : Bool} {t : Nat} (ht : tm t = .vsl es cl) (h : es.length ≤ 9223372036854775807 → Sim P n c tm H K) : Sim P n c tm H K := by
  intro a w hs
  have := hs.tm t
  simp only [ht] at this
  exact h (rel_vlen this) a w hs
end

def idxF {α : Type} (p : α → Bool) : List α → Int
  | [] => -1
  | x :: l => if p x then 0 else if idxF p l = -1 then -1 else idxF p l + 1
theorem idxF_ge {α : Type} (p : α → Bool) : ∀ l : List α, -1 ≤ idxF p l
  | [] => by simp [idxF]
  | x :: l => by have := idxF_ge p l; simp only [idxF]; split <;> (try split) <;> omega
theorem idxF_lt {α : Type} (p : α → Bool) : ∀ l : List α, idxF p l < l.length
  | [] => by simp [idxF]
  | x :: l => by have := idxF_lt p l; simp only [idxF, List.length_cons]; split <;> (try split) <;> omega
theorem idxF_neg {α : Type} {p : α → Bool} : ∀ {l : List α}, idxF p l = -1 ↔ l.any p = false
  | [] => by simp [idxF]
  | x :: l => by
    have := @idxF_neg _ p l
    have h := idxF_ge p l
    simp only [idxF, List.any_cons, Bool.or_eq_false_iff]
    split
    · rename_i e; simp [e]
    · rename_i e
      have e : p x = false := by simpa using e
      split
      · rename_i e2; simp [e, this.1 e2]
      · rename_i e2
        constructor
        · intro q; omega
        · intro q; exact (e2 (this.2 q.2)).elim
theorem idxF_at {α : Type} {p : α → Bool} : ∀ {l : List α} {k : Nat} {d : α}, k < l.length → (l.take k).any p = false → p (l.getD k d) = true → idxF p l = k
  | [], k, d, h, _, _ => by simp at h
  | x :: l, 0, d, _, _, h3 => by simp at h3; simp [idxF, h3]
  | x :: l, k + 1, d, h1, h2, h3 => by
    simp only [List.take_succ_cons, List.any_cons, Bool.or_eq_false_iff] at h2
    have := @idxF_at _ p l k d (by simpa using h1) h2.2 (by simpa using h3)
    simp only [idxF, h2.1, this]
    simp
theorem idxF_none {α : Type} {p : α → Bool} {l : List α} {k : Nat} (hk : l.length ≤ k) (h : (l.take k).any p = false) : idxF p l = -1 := by
  rw [List.take_of_length_le hk] at h
  exact idxF_neg.2 h
theorem any_take {α : Type} {p : α → Bool} {l : List α} {k : Nat} {d : α} (hk : k < l.length) (h : (l.take k).any p = false) (h2 : p (l.getD k d) = false) : (l.take (k + 1)).any p = false := by
  rw [List.take_succ_eq_append_getElem hk, List.any_append, h]
  simp [List.getD_eq_getElem?_getD, hk] at h2
  simp [h2]
theorem any_at {α : Type} {p : α → Bool} {l : List α} {k : Nat} {d : α} (hk : k < l.length) (h2 : p (l.getD k d) = true) : l.any p = true := by
  simp [List.getD_eq_getElem?_getD, hk] at h2
  rw [List.any_eq_true]
  exact ⟨_, List.getElem_mem hk, h2⟩
theorem all_take {α : Type} {p : α → Bool} {l : List α} {k : Nat} {d : α} (hk : k < l.length) (h : (l.take k).all p = true) (h2 : p (l.getD k d) = true) : (l.take (k + 1)).all p = true := by
  rw [List.take_succ_eq_append_getElem hk, List.all_append, h]
  simp [List.getD_eq_getElem?_getD, hk] at h2
  simp [h2]
theorem all_not {α : Type} {p : α → Bool} {l : List α} {k : Nat} {d : α} (hk : k < l.length) (h2 : p (l.getD k d) = false) : l.all p = false := by
  simp [List.getD_eq_getElem?_getD, hk] at h2
  rw [List.all_eq_false]
  exact ⟨_, List.getElem_mem hk, by simp [h2]⟩
theorem idxF_nonneg {α : Type} {p : α → Bool} {l : List α} : decide (0 ≤ idxF p l) = l.any p := by
  have h1 := idxF_ge p l
  have h2 := @idxF_neg _ p l
  cases hb : l.any p
  · rw [h2.2 hb]; rfl
  · have : idxF p l ≠ -1 := fun e => by rw [h2.1 e] at hb; cases hb
    simp; omega
theorem I_wrap {a b : Int} (h : a = b) (h1 : -9223372036854775808 ≤ b) (h2 : b < 9223372036854775808) : AV.lit (Value.int IntKind.i64 (IntKind.i64.wrap a)) = I b := by
  rw [h, w64 h1 h2]
end Go.Sim
