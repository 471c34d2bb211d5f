/- The calculus: cuts of slices and strings. No condition. -/
import Derived.Test.YtjpfgafdjlkblaaGreatSimQ
namespace Go.Sim
open Go
section
variable {P : Program} {t e : TypeId} {ti : TI} {α : Type} {f : α → List AV} {l : List α} {cl : Bool} {ka kb : IntKind} {h lo m : Int}

theorem rows_len (hf : ∀ x, (f x).length = ti.size) : ∀ r ∈ l.map f, r.length = ti.size := by
  intro r hr
  obtain ⟨x, _, rfl⟩ := List.mem_map.1 hr
  exact hf x
theorem sl_hi (he : telem P t = some e) (ht : tinfo P e = some ti) (hf : ∀ x, (f x).length = ti.size) :
    sliceA P t (.vsl (l.map f) cl) none (some (.lit (.int ka h))) none = if 0 ≤ h ∧ h ≤ l.length then some (.vsl ((l.take h.toNat).map f) (clipOf none h l.length cl)) else none := by
  have := rows_len (l := l) hf
  simp only [sliceA, optInt, he, ht, Option.getD_none, Option.getD_some, List.length_map]
  by_cases hc : 0 ≤ h ∧ h ≤ l.length
  · rw [if_pos hc, if_pos ⟨Int.le_refl 0, hc.1, hc.2, Int.le_refl _, .inl trivial, this⟩]
    simp [List.map_take]
  · rw [if_neg hc, if_neg (fun q => hc ⟨q.2.1, q.2.2.1⟩)]
theorem sl_lo (he : telem P t = some e) (ht : tinfo P e = some ti) (hf : ∀ x, (f x).length = ti.size) :
    sliceA P t (.vsl (l.map f) cl) (some (.lit (.int ka lo))) none none = if 0 ≤ lo ∧ lo ≤ l.length then some (.vsl ((l.drop lo.toNat).map f) cl) else none := by
  have := rows_len (l := l) hf
  simp only [sliceA, optInt, he, ht, Option.getD_none, Option.getD_some, List.length_map]
  by_cases hc : 0 ≤ lo ∧ lo ≤ l.length
  · rw [if_pos hc, if_pos ⟨hc.1, hc.2, Int.le_refl _, Int.le_refl _, .inl trivial, this⟩]
    simp [List.map_drop, clipOf]
    rw [List.take_of_length_le (by simp)]
  · rw [if_neg hc, if_neg (fun q => hc ⟨q.1, q.2.1⟩)]
theorem sl_lohi (he : telem P t = some e) (ht : tinfo P e = some ti) (hf : ∀ x, (f x).length = ti.size) :
    sliceA P t (.vsl (l.map f) cl) (some (.lit (.int ka lo))) (some (.lit (.int kb h))) none = if 0 ≤ lo ∧ lo ≤ h ∧ h ≤ l.length then some (.vsl (((l.take h.toNat).drop lo.toNat).map f) (clipOf none h l.length cl)) else none := by
  have := rows_len (l := l) hf
  simp only [sliceA, optInt, he, ht, Option.getD_none, Option.getD_some, List.length_map]
  by_cases hc : 0 ≤ lo ∧ lo ≤ h ∧ h ≤ l.length
  · rw [if_pos hc, if_pos ⟨hc.1, hc.2.1, hc.2.2, Int.le_refl _, .inl trivial, this⟩]
    simp [List.map_take, List.map_drop]
  · rw [if_neg hc, if_neg (fun q => hc ⟨q.1, q.2.1, q.2.2.1⟩)]
theorem sl_hm (he : telem P t = some e) (ht : tinfo P e = some ti) (hf : ∀ x, (f x).length = ti.size) :
    sliceA P t (.vsl (l.map f) cl) none (some (.lit (.int ka h))) (some (.lit (.int kb m))) = if 0 ≤ h ∧ h ≤ m ∧ m ≤ l.length then some (.vsl ((l.take h.toNat).map f) (decide (m = h))) else none := by
  have := rows_len (l := l) hf
  simp only [sliceA, optInt, he, ht, Option.getD_none, Option.getD_some, List.length_map]
  by_cases hc : 0 ≤ h ∧ h ≤ m ∧ m ≤ l.length
  · rw [if_pos hc, if_pos ⟨Int.le_refl 0, hc.1, hc.2.1, hc.2.2, .inr (by simp), this⟩]
    simp [List.map_take, clipOf]
  · rw [if_neg hc, if_neg (fun q => hc ⟨q.2.1, q.2.2.1, q.2.2.2.1⟩)]
theorem so_hm (he : telem P t = some e) (ht : tinfo P e = some ti) {b sz off n : Nat} (hs : sz = ti.size) :
    sliceA P t (.sl b sz off n cl) none (some (.lit (.int ka h))) (some (.lit (.int kb m))) = if 0 ≤ h ∧ h ≤ m ∧ m ≤ n then some (.sl b sz off h.toNat (decide (m = h))) else none := by
  simp only [sliceA, optInt, he, ht, Option.getD_none, Option.getD_some, hs]
  by_cases hc : 0 ≤ h ∧ h ≤ m ∧ m ≤ n
  · rw [if_pos hc, if_pos ⟨trivial, Int.le_refl 0, .inl trivial, hc.1, hc.2.1, hc.2.2, .inr (by simp)⟩]
    simp [clipOf]
  · rw [if_neg hc, if_neg (fun q => hc ⟨q.2.2.2.1, q.2.2.2.2.1, q.2.2.2.2.2.1⟩)]
variable {s : Str}
theorem ss_hi (ht : tstr P t = true) : sliceA P t (S s) none (some (.lit (.int ka h))) none = if 0 ≤ h ∧ h ≤ s.length then some (S (s.take h.toNat)) else none := by
  simp only [sliceA, optInt, ht, Option.getD_none, Option.getD_some, str_data, true_and]
  by_cases hc : 0 ≤ h ∧ h ≤ s.length
  · rw [if_pos hc, if_pos ⟨Int.le_refl 0, hc.1, hc.2⟩]; simp
  · rw [if_neg hc, if_neg (fun q => hc ⟨q.2.1, q.2.2⟩)]
theorem ss_lo (ht : tstr P t = true) : sliceA P t (S s) (some (.lit (.int ka lo))) none none = if 0 ≤ lo ∧ lo ≤ s.length then some (S (s.drop lo.toNat)) else none := by
  simp only [sliceA, optInt, ht, Option.getD_none, Option.getD_some, str_data, true_and]
  by_cases hc : 0 ≤ lo ∧ lo ≤ s.length
  · rw [if_pos hc, if_pos ⟨hc.1, hc.2, Int.le_refl _⟩]
    rw [List.take_of_length_le (by simp)]
  · rw [if_neg hc, if_neg (fun q => hc ⟨q.1, q.2.1⟩)]
theorem ss_lohi (ht : tstr P t = true) : sliceA P t (S s) (some (.lit (.int ka lo))) (some (.lit (.int kb h))) none = if 0 ≤ lo ∧ lo ≤ h ∧ h ≤ s.length then some (S ((s.take h.toNat).drop lo.toNat)) else none := by
  simp only [sliceA, optInt, ht, Option.getD_none, Option.getD_some, str_data, true_and]
end

theorem maxLen_eq : maxLen = 9223372036854775807 := rfl
/-! ### A slice of our own that grows -/
def Grow {α : Type} (f : α → List AV) (sz : Nat) (ty : TypeId) (H0 H : AHeap) (x : AV) (l : List α) : Prop :=
  (l = [] ∧ x = .vsl [] true ∧ H = H0) ∨ ∃ b cl, H0 b = none ∧ x = .sl b sz 0 l.length cl ∧ H = H0.set b ⟨sz, ty, l.map f⟩

theorem grow_append {P : Program} {t e : TypeId} {ti : TI} {α : Type} {f : α → List AV} {H0 H : AHeap} {x : AV} {l m : List α} {cl : Bool} {K : AV → AHeap → Prop} (he : telem P t = some e) (ht : tinfo P e = some ti) (hf : ∀ x, (f x).length = ti.size) (h0 : 0 < ti.size)
    (hg : Grow f ti.size e H0 H x l) (hb : (l.length + m.length) * ti.bytes ≤ 140737488355328) (hm : l.length + m.length ≤ 9223372036854775807) {es : List (List AV)} {g : Tag (H, K)} (hes : es = m.map f) (k : ∀ x' H', Grow f ti.size e H0 H' x' (l ++ m) → K x' H') : appT P H t x (.vsl es cl) K g := by
  subst hes
  show appendA P H t x (.vsl (m.map f) cl) K
  have hmax : maxLen = 9223372036854775807 := rfl
  unfold appendA
  simp only [he, ht, rowsOf]
  refine ⟨h0, rows_len hf, ?_⟩
  rcases hg with ⟨rfl, rfl, rfl⟩ | ⟨b, cl', hb0, rfl, rfl⟩
  · simp only [List.length_map, List.length_nil, Nat.zero_add] at hb hm ⊢
    refine ⟨fun r hr => by simp at hr, by omega, hb, fun e => ?_, fun e => ⟨trivial, fun b' hb' => ?_⟩⟩
    · have : m = [] := by simpa using e
      subst this
      exact k _ _ (.inl ⟨rfl, rfl, rfl⟩)
    · exact k _ _ (.inr ⟨b', false, hb', by simp, by simp⟩)
  · simp only [AHeap.set_self, List.length_map]
    refine ⟨trivial, trivial, trivial, trivial, Nat.le_refl _, by omega, hb, fun b' hb' => ?_⟩
    rw [set_del hb0] at hb' ⊢
    exact k _ _ (.inr ⟨b', false, hb', by simp, by rw [List.map_append, List.take_of_length_le (by simp)]⟩)
theorem grow_slice {P : Program} {t e : TypeId} {ti : TI} {α : Type} {f : α → List AV} {H0 H : AHeap} {x : AV} {l : List α} {ka kb : IntKind} (he : telem P t = some e) (ht : tinfo P e = some ti) (hf : ∀ x, (f x).length = ti.size)
    (hg : Grow f ti.size e H0 H x l) : ∃ x', sliceA P t x none (some (.lit (.int ka l.length))) (some (.lit (.int kb l.length))) = some x' ∧ Grow f ti.size e H0 H x' l := by
  rcases hg with ⟨rfl, rfl, rfl⟩ | ⟨b, cl', hb0, rfl, rfl⟩
  · refine ⟨.vsl [] true, ?_, .inl ⟨rfl, rfl, rfl⟩⟩
    have := sl_hm (P := P) (t := t) (f := f) (l := []) (cl := true) (ka := ka) (kb := kb) (h := 0) (m := 0) he ht hf
    simpa using this
  · refine ⟨.sl b ti.size 0 l.length true, ?_, .inr ⟨b, true, hb0, rfl, rfl⟩⟩
    rw [so_hm he ht rfl, if_pos (by omega)]
    simp
theorem grow_nil {α : Type} {f : α → List AV} {sz : Nat} {ty : TypeId} {H : AHeap} : Grow f sz ty H H (.vsl [] true) [] := .inl ⟨rfl, rfl, rfl⟩
theorem grow_new {α : Type} {f : α → List AV} {sz : Nat} {ty : TypeId} {H : AHeap} {b : Nat} {cl : Bool} (hb : H b = none) : Grow f sz ty H (H.set b ⟨sz, ty, []⟩) (.sl b sz 0 0 cl) [] := .inr ⟨b, cl, hb, rfl, rfl⟩
theorem grow_len {P : Program} {t e : TypeId} {α : Type} {f : α → List AV} {sz : Nat} {ty : TypeId} {H0 H : AHeap} {x : AV} {l : List α} (he : telem P t = some e) (hg : Grow f sz ty H0 H x l) : lenA P t x = some (I l.length) := by
  rcases hg with ⟨rfl, rfl, rfl⟩ | ⟨b, cl', hb0, rfl, rfl⟩
  · rw [lenV he]; rfl
  · rw [lenL he]
theorem grow_frz {α : Type} {f : α → List AV} {sz : Nat} {ty : TypeId} {H0 H : AHeap} {tm : Tm} {t : Nat} {l : List α} {P : Program} {rs : List ResultVar} {Q : AV → AHeap → Prop} (hg : Grow f sz ty H0 H (tm t) l) (k : ∀ cl, retR P rs Q (upd tm t (.vsl (l.map f) cl)) H0) : retR P rs Q tm H := by
  rcases hg with ⟨rfl, h1, rfl⟩ | ⟨b, cl', hb0, h1, rfl⟩
  · have : upd tm t (.vsl [] true) = tm := by
      funext u; unfold upd; split
      · rename_i e; rw [e, h1]
      · rfl
    have k' := k true
    simp only [List.map_nil] at k'
    rw [this] at k'
    exact k'
  · refine retR_frz [t] ?_
    simp only [frz, h1, AHeap.set_self, true_and, Nat.zero_add, List.length_map, Nat.le_refl, List.drop_zero]
    rw [set_del hb0, ← List.length_map (f := f), List.take_length]
    exact k _
end Go.Sim
