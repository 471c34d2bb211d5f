/- The calculus: cuts, append, lengths, bytes of texts, parts of tuples. No condition. -/
import Derived.Test.YtjpfgafdjlkblaaGreatSimF
namespace Go.Sim
open Go
section
variable {P : Program} {s : ASt} {a : Act} {w : World} {K : AV → AHeap → Prop}

theorem slice_run {t e : TypeId} {i : TypeInfo} (ht : P.underlying t = some (.slice e)) (hi : P.info? e = some i) (ad : Option Addr) (len cap : Nat) {l h m : Option Int} {lo hi' mx : Option Value}
    (hl : (l = none ∧ lo = none) ∨ ∃ k n, l = some n ∧ lo = some (.int k n)) (hh : (h = none ∧ hi' = none) ∨ ∃ k n, h = some n ∧ hi' = some (.int k n)) (hm : (m = none ∧ mx = none) ∨ ∃ k n, m = some n ∧ mx = some (.int k n))
    (c1 : 0 ≤ l.getD 0) (c2 : l.getD 0 ≤ h.getD len) (c3 : h.getD len ≤ m.getD cap) (c4 : m.getD cap ≤ cap) (c5 : m = none ∨ h ≠ none) :
    (Instr.sliceAt t (.slice ad len cap) lo hi' mx).run P w = .ok (sliced ad (l.getD 0).toNat (h.getD len).toNat (m.getD cap).toNat i.size) w := by
  have hte : P.underlying t = some (.slice (P.elem t)) := by rw [elem_slice ht]; exact ht
  have hsz : (sizeOf (P.elem t)).run P w = .ok i.size w := by rw [elem_slice ht]; exact sizeOf_run hi
  rw [run_sliceAt_slice w t _ _ _ _ hte]
  rcases hl with ⟨rfl, rfl⟩ | ⟨kl, l, rfl, rfl⟩ <;> rcases hh with ⟨rfl, rfl⟩ | ⟨kh, h, rfl, rfl⟩ <;> rcases hm with ⟨rfl, rfl⟩ | ⟨km, m, rfl, rfl⟩ <;> simp only [Option.getD_none, Option.getD_some] at c1 c2 c3 c4 ⊢
  · rw [run_slice_all w t ad len cap hte, hsz]; rfl
  · simp at c5
  · rw [run_slice_h w t ad len cap hte kh h c2 c3, hsz]; rfl
  · rw [run_slice_hm w t ad len cap hte kh km h m c2 c3 c4, hsz]; rfl
  · rw [run_slice_l w t ad len cap hte kl l c1 c2, hsz]; rfl
  · simp at c5
  · rw [run_slice_lh w t ad len cap hte kl kh l h c1 c2 c3, hsz]; rfl
  · rw [run_slice_lhm w t ad len cap hte kl kh km l h m c1 c2 c3 c4, hsz]; rfl

theorem str_slice_run {t : TypeId} (ht : P.underlying t = some .string) (b : ByteArray) {l h : Option Int} {lo hi' : Option Value}
    (hl : (l = none ∧ lo = none) ∨ ∃ k n, l = some n ∧ lo = some (.int k n)) (hh : (h = none ∧ hi' = none) ∨ ∃ k n, h = some n ∧ hi' = some (.int k n))
    (c1 : 0 ≤ l.getD 0) (c2 : l.getD 0 ≤ h.getD b.size) (c3 : h.getD b.size ≤ b.size) :
    (Instr.sliceAt t (.string b) lo hi' none).run P w = .ok (.string (b.extract (l.getD 0).toNat (h.getD b.size).toNat)) w := by
  rw [run_sliceAt_string w t _ _ _ _ ht]
  rcases hl with ⟨rfl, rfl⟩ | ⟨kl, l, rfl, rfl⟩ <;> rcases hh with ⟨rfl, rfl⟩ | ⟨kh, h, rfl, rfl⟩ <;> simp only [Option.getD_none, Option.getD_some] at c1 c2 c3 ⊢
  · simp [Instr.slice, run_underlying ht, Instr.sliceBounds]
  · simp [Instr.slice, run_underlying ht, Instr.sliceBounds, run_sliceBound w kh h b.size _ c2 c3]
  · simp [Instr.slice, run_underlying ht, Instr.sliceBounds, run_sliceBound w kl l b.size _ c1 c2]
  · exact run_slice_string w t b kl kh l h ht c1 c2 c3

theorem extract_data (b : ByteArray) (l h : Nat) : b.extract l h = ⟨((b.data.toList.take h).drop l).toArray⟩ := by
  have e : (b.extract l h).data.toList = (b.data.toList.take h).drop l := by
    rw [ByteArray.data_extract]
    simp [List.drop_take]
  cases hb : b.extract l h with
  | mk d =>
    rw [hb] at e
    simp only at e
    rw [← e]

theorem clip_spec {m : Option Int} {h len cap : Int} {cl : Bool} (hc : clipOf m h len cl = true) (hcl : cl = true → cap = len) : m.getD cap = h := by
  unfold clipOf at hc
  cases m with
  | some m => simpa using hc
  | none => simp at hc ⊢; rw [hcl hc.1, hc.2]

theorem vsl_cut {O : Nat → Prop} {es : List (List AV)} {c : Bool} {b o sz cap L H M sz' : Nat} {cs : List Value} (hr : RowsRel O w sz es cs) (hc : ∀ (j : Nat) (v : Value), cs[j]? = some v → w.cell? ⟨b, o + j, none⟩ = some v)
    (h2 : cap ≤ maxLen) (h4 : cap ≠ 0 → ¬ O b) (h5 : b < w.heap.size) (k1 : L ≤ H) (k2 : H ≤ M) (k3 : M ≤ cap) (k4 : H ≤ es.length) (k5 : c = true → M = H) (k6 : es ≠ [] → sz = sz') :
    Rel O w (.vsl ((es.take H).drop L) c) (sliced (some ⟨b, o, none⟩) L H M sz') := by
  have hres : ((es.take H).drop L).length = H - L := by simp; omega
  by_cases he : H = L
  · have hnil : (es.take H).drop L = [] := by apply List.eq_nil_of_length_eq_zero; rw [hres]; omega
    rw [hnil]
    have any : ∀ o', Rel O w (.vsl [] c) (.slice (some ⟨b, o', none⟩) 0 (M - L)) := fun o' =>
      rel_vslc (es := []) (cs := []) (sz := sz) (cl := c) (RowsRel.nil O w sz) (fun j v hj => by simp at hj) (by simp) (by omega) (fun hcc => by have := k5 hcc; simp; omega) (fun q => h4 (by omega)) h5
    unfold sliced
    have e0 : H - L = 0 := by omega
    rw [e0]
    split
    · exact any o
    · simp only [Option.map_some, add_plain]; exact any _
  · have hne : es ≠ [] := by intro e; subst e; simp at k4; omega
    have hml : ¬ M = L := by omega
    unfold sliced
    rw [if_neg hml]
    simp only [Option.map_some, add_plain]
    rw [← k6 hne, ← hres]
    refine rel_vslc ((hr.take H k4).drop L) (fun j u hj => ?_) (by rw [hres]; omega) (by omega) (fun hcc => by have := k5 hcc; rw [hres]; omega) (fun q => h4 (by omega)) h5
    rw [List.getElem?_drop, List.getElem?_take] at hj
    split at hj
    · rw [Nat.add_assoc]; exact hc _ u hj
    · cases hj

theorem sliceA_sound {O : Nat → Prop} {t : TypeId} {x r : AV} {v : Value} {lo hi mx : Option AV} {lov hiv mxv : Option Value} (hx : Rel O w x v)
    (hl : ∀ y, lo = some y → ∃ u, lov = some u ∧ Rel O w y u) (hl0 : lo = none → lov = none) (hh : ∀ y, hi = some y → ∃ u, hiv = some u ∧ Rel O w y u) (hh0 : hi = none → hiv = none)
    (hm : ∀ y, mx = some y → ∃ u, mxv = some u ∧ Rel O w y u) (hm0 : mx = none → mxv = none) (hs : sliceA P t x lo hi mx = some r) : ∃ u, (Instr.sliceAt t v lov hiv mxv).run P w = .ok u w ∧ Rel O w r u := by
  unfold sliceA at hs
  split at hs
  · rename_i l h m el eh em
    have sl := optInt_spec hl hl0 el
    have sh := optInt_spec hh hh0 eh
    have sm := optInt_spec hm hm0 em
    split at hs
    · rename_i b
      cases hx
      split at hs
      · rename_i hc
        obtain ⟨c0, cm, c1, c2, c3⟩ := hc
        subst cm
        cases hs
        have hmx : mxv = none := by
          rcases sm with ⟨_, e⟩ | ⟨k, n, e, _⟩
          · exact e
          · cases e
        subst hmx
        have hrun := str_slice_run (P := P) (w := w) (tstr_spec c0) b sl sh c1 (by rw [size_data]; exact c2) (by rw [size_data]; exact c3)
        rw [size_data, extract_data] at hrun
        exact ⟨_, hrun, .lit _⟩
      · cases hs
    · rename_i es cl
      split at hs
      · rename_i e he
        split at hs
        · rename_i ti ht
          obtain ⟨i, d, z, hi', hd, hz, hsz, _⟩ := tinfo_spec ht
          split at hs
          · rename_i hc
            obtain ⟨c1, c2, c3, c4, c5, c6⟩ := hc
            cases hs
            cases hx with
            | vnil cl =>
              have c4' : m.getD ((0 : Nat) : Int) ≤ ((0 : Nat) : Int) := c4
              have hrun := slice_run (P := P) (w := w) (telem_spec he) hi' none 0 0 sl sh sm c1 c2 c3 c4' c5
              refine ⟨_, hrun, ?_⟩
              have c2' : l.getD 0 ≤ h.getD ((0 : Nat) : Int) := c2
              have c3' : h.getD ((0 : Nat) : Int) ≤ m.getD ((0 : Nat) : Int) := c3
              have e0 : (l.getD 0).toNat = 0 := by omega
              have e1 : (h.getD ((0 : Nat) : Int)).toNat = 0 := by omega
              have e2 : (m.getD ((0 : Nat) : Int)).toNat = 0 := by omega
              rw [e0, e1, e2]
              simp only [sliced, List.take_nil, List.drop_nil]
              exact .vnil _
            | vsl es cl b o sz cap g h1 h2 h3 h4 h5 h6 h7 h8 h9 =>
              have c4' : m.getD (cap : Int) ≤ cap := by
                cases m with
                | none => simp
                | some m => simp at c4 ⊢; omega
              have c3' : h.getD (es.length : Int) ≤ m.getD (cap : Int) := by
                cases m with
                | none => simp at c3 ⊢; omega
                | some m => simpa using c3
              have hhe : h.getD (es.length : Int) ≤ es.length := by omega
              have hrun := slice_run (P := P) (w := w) (telem_spec he) hi' (some ⟨b, o, none⟩) es.length cap sl sh sm c1 c2 c3' c4' c5
              rw [hsz] at hrun
              refine ⟨_, hrun, vsl_cut (rowsRel_of_g h6 h8 h9) (fun j v hj => cells_of_g (O := O) h6 h7 j v hj) h2 h4 h5 (by omega) (by omega) (by omega) (by omega) (fun hcc => ?_) (fun hne => ?_)⟩
              · have := clip_spec (cap := (cap : Int)) hcc (fun hcl => by have := h3 hcl; omega)
                omega
              · cases es with
                | nil => exact absurd rfl hne
                | cons r es => rw [← h6 0 r rfl]; exact c6 r (by simp)
          · cases hs
        · cases hs
      · cases hs
    · rename_i b sz off len cl
      split at hs
      · rename_i e he
        split at hs
        · rename_i ti ht
          obtain ⟨i, d, z, hi', hd, hz, hsz, _⟩ := tinfo_spec ht
          split at hs
          · rename_i hc
            obtain ⟨c0, c1, cz, c2, c3, c4, c5⟩ := hc
            cases hs
            cases hx with
            | sl b sz off len cap cl c t' fr h1 h2 h3 h4 h5 hz0 =>
              have c4' : m.getD (cap : Int) ≤ cap := by
                cases m with
                | none => simp
                | some m => simp at c4 ⊢; omega
              have c3' : h.getD (len : Int) ≤ m.getD (cap : Int) := by
                cases m with
                | none => simp at c3 ⊢; omega
                | some m => simpa using c3
              have hrun := slice_run (P := P) (w := w) (telem_spec he) hi' (some ⟨b, off * sz, none⟩) len cap sl sh sm c1 c2 c3' c4' c5
              rw [hsz, ← c0] at hrun
              refine ⟨_, hrun, ?_⟩
              have place : (if (m.getD (cap : Int)).toNat = (l.getD 0).toNat then (some (⟨b, off * sz, none⟩ : Addr)) else (some (⟨b, off * sz, none⟩ : Addr)).map (·.add ((l.getD 0).toNat * sz))) = some ⟨b, (off + (l.getD 0).toNat) * sz, none⟩ := by
                split
                · rename_i hml
                  have e0 : (l.getD 0).toNat = 0 := by
                    rcases cz with e | e <;> omega
                  rw [e0]; simp
                · simp only [Option.map_some, add_plain, Nat.add_mul]
              unfold sliced
              rw [place]
              have hfit : (off + (l.getD 0).toNat + ((m.getD (cap : Int)).toNat - (l.getD 0).toNat)) * sz ≤ c.size := by
                refine Nat.le_trans (Nat.mul_le_mul_right sz ?_) h5
                omega
              exact .sl b sz (off + (l.getD 0).toNat) _ _ _ c t' fr (by omega) (by omega) (fun hcc => by
                have := clip_spec (cap := (cap : Int)) hcc (fun hcl => by have := h3 hcl; omega)
                omega) h4 hfit hz0
          · cases hs
        · cases hs
      · cases hs
    · cases hs
  · cases hs

/-! ### Lengths, bytes, parts -/
def lenA (P : Program) (t : TypeId) (x : AV) : Option AV :=
  match x with
  | .vsl es _ => if (telem P t).isSome then some (I es.length) else none
  | .sl _ _ _ len _ => if (telem P t).isSome then some (I len) else none
  | .lit (.string b) => if tstr P t then some (I b.data.toList.length) else none
  | _ => none

theorem lenA_sound {O : Nat → Prop} {t ty : TypeId} {x r : AV} {v : Value} (hx : Rel O w x v) (h : lenA P t x = some r) : ∃ u, (Builtin.len_ #[t] ty #[v]).run P w = .ok u w ∧ Rel O w r u := by
  unfold lenA at h
  split at h
  · rename_i es cl
    split at h
    · rename_i he
      obtain ⟨e, he⟩ := Option.isSome_iff_exists.1 he
      have hu := telem_spec he
      cases h
      cases hx with
      | vnil cl => exact ⟨_, run_len_slice w t ty none 0 0 (by rw [elem_slice hu]; exact hu), .lit _⟩
      | vsl es cl b o sz cap g h1 h2 h3 h4 h5 h6 h7 h8 h9 => exact ⟨_, run_len_slice w t ty _ es.length cap (by rw [elem_slice hu]; exact hu), .lit _⟩
    · cases h
  · rename_i len cl
    split at h
    · rename_i he
      obtain ⟨e, he⟩ := Option.isSome_iff_exists.1 he
      have hu := telem_spec he
      cases h
      cases hx with
      | sl b sz off len cap cl c t' fr h1 h2 h3 h4 h5 => exact ⟨_, run_len_slice w t ty _ len cap (by rw [elem_slice hu]; exact hu), .lit _⟩
    · cases h
  · rename_i b
    split at h
    · rename_i he
      cases h
      cases hx
      refine ⟨_, run_len_string w t ty b (tstr_spec he), ?_⟩
      rw [size_data]
      exact .lit _
    · cases h
  · cases h

def indexA (P : Program) (t : TypeId) (x i : AV) : Option AV :=
  match x, i with
  | .lit (.string b), .lit (.int _ n) => if tstr P t = true ∧ 0 ≤ n then (match b.data.toList[n.toNat]? with
      | some c => some (U8 c.toNat)
      | none => none) else none
  | .agg cs, .lit (.int _ n) => match tarr P t with
    | some (m, e) => match tinfo P e with
      | some ti => if 0 ≤ n ∧ n < m ∧ ti.agg = false ∧ ti.size = 1 then cs[n.toNat]? else none
      | none => none
    | none => none
  | _, _ => none

theorem indexA_sound {O : Nat → Prop} {t : TypeId} {x i r : AV} {v iv : Value} (hx : Rel O w x v) (hi : Rel O w i iv) (h : indexA P t x i = some r) : ∃ u, (Instr.index t v iv).run P w = .ok u w ∧ Rel O w r u := by
  unfold indexA at h
  split at h
  · rename_i b k n
    cases hx
    cases hi
    split at h
    · rename_i hc
      cases hb : b.data.toList[n.toNat]? with
      | none => rw [hb] at h; cases h
      | some c =>
        rw [hb] at h
        cases h
        have hlt : n.toNat < b.size := by rw [size_data]; exact lt_of_get hb
        have hd : 0 ≤ n ∧ n < b.size := ⟨hc.2, by omega⟩
        refine ⟨.int .u8 (b[n.toNat]'hlt).toNat, ?_, ?_⟩
        · rw [run_index_string w t b k n (tstr_spec hc.1), dif_pos hd]
        · have e : b[n.toNat]'hlt = c := by
            have : b.data.toList[n.toNat]? = some (b[n.toNat]'hlt) := by
              have hlt' : n.toNat < b.data.size := hlt
              rw [Array.getElem?_toList, Array.getElem?_eq_getElem hlt']; rfl
            rw [hb] at this
            cases this; rfl
          rw [e]; exact .lit _
    · cases h
  · rename_i cs k n
    cases hi
    cases hx with
    | agg _ vs hs ho hr =>
      split at h
      · rename_i m e ha
        split at h
        · rename_i ti ht
          obtain ⟨i, d, z, hi', hd, hz, hsz, hby, hag, _⟩ := tinfo_spec ht
          split at h
          · rename_i hc
            obtain ⟨c1, c2, c3, c4⟩ := hc
            have hl : RelL O w cs vs.toList := ⟨by simp [hs], fun i c v hc hv => hr i c v hc (by simpa using hv)⟩
            obtain ⟨u, hu, hru⟩ := hl.get h
            have hvu : vs[n.toNat]? = some u := by simpa using hu
            refine ⟨u, ?_, hru⟩
            have ha' : aggDesc d = false := by rw [← hag]; exact c3
            simp [Instr.index, asIntOf, run_underlying (tarr_spec ha), c1, c2, sizeOf_run hi', hsz, c4, part, isAgg_run hd, ha', hvu]
          · cases h
        · cases h
      · cases h
  · cases h

def extractA (x : AV) (i : Nat) : Option AV :=
  match x with
  | .tup vs => vs[i]?
  | _ => none
theorem extractA_sound {O : Nat → Prop} {x r : AV} {v : Value} {i : Nat} (hx : Rel O w x v) (h : extractA x i = some r) : ∃ u, (Instr.extract v i).run P w = .ok u w ∧ Rel O w r u := by
  unfold extractA at h
  split at h
  · rename_i cs
    cases hx with
    | tup _ vs hs hr =>
      have hl : RelL O w cs vs.toList := ⟨by simp [hs], fun i c v hc hv => hr i c v hc (by simpa using hv)⟩
      obtain ⟨u, hu, hru⟩ := hl.get h
      have : vs[i]? = some u := by simpa using hu
      exact ⟨u, by simp [Instr.extract, this], hru⟩
  · cases h

def okA : AV → Bool
  | .ptr .. | .vptr .. | .fn .. => true
  | _ => false
theorem okA_sound {O : Nat → Prop} {x : AV} {v : Value} (hx : Rel O w x v) (h : okA x = true) : (∃ ad, v = .pointer (some ad)) ∨ ∃ f us vs, v = .func (.func f) us vs := by
  cases hx <;> first | (simp [okA] at h; done) | exact .inl ⟨_, rfl⟩ | exact .inr ⟨_, _, _, rfl⟩

end
end Go.Sim
