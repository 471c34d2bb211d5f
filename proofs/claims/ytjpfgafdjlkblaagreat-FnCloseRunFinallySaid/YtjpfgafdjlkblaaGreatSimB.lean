/- The calculus: rows of cells, owned blocks made, written, extended; how the world goes on. No condition. -/
import Derived.Test.YtjpfgafdjlkblaaGreatSimA
import Derived.Laws.CopyRow
import Derived.Lib.ConvBytes
namespace Go.Sim
open Go

theorem idx_lt {p q n sz : Nat} (hp : p < n) (hq : q < sz) : p * sz + q < n * sz := by
  have h : (p + 1) * sz ≤ n * sz := Nat.mul_le_mul_right sz hp
  rw [Nat.add_mul] at h
  omega

theorem lt_of_get {α : Type} {l : List α} {i : Nat} {x : α} (h : l[i]? = some x) : i < l.length := by
  rcases Nat.lt_or_ge i l.length with h1 | h1
  · exact h1
  · simp [List.getElem?_eq_none h1] at h

structure RowsRel (O : Nat → Prop) (w : World) (sz : Nat) (es : List (List AV)) (cs : List Value) : Prop where
  len : cs.length = es.length * sz
  row : ∀ (p : Nat) (r : List AV), es[p]? = some r → r.length = sz
  at_ : ∀ (p q : Nat) (r : List AV) (x : AV), es[p]? = some r → r[q]? = some x → ∃ v, cs[p * sz + q]? = some v ∧ v.oneCell' = true ∧ Rel O w x v

theorem RowsRel.nil (O : Nat → Prop) (w : World) (sz : Nat) : RowsRel O w sz [] [] := ⟨by simp, fun p r h => by simp at h, fun p q r x h => by simp at h⟩

theorem RowsRel.step {O O' : Nat → Prop} {w w' : World} {sz : Nat} {es : List (List AV)} {cs : List Value} (h : RowsRel O w sz es cs) (hk : Ev O w w') (hO : Fresh O O' w) : RowsRel O' w' sz es cs :=
  ⟨h.len, h.row, fun p q r x hp hq => let ⟨v, h1, h2, h3⟩ := h.at_ p q r x hp hq; ⟨v, h1, h2, h3.step hk hO⟩⟩

theorem RowsRel.sub {O O' : Nat → Prop} {w : World} {sz : Nat} {es : List (List AV)} {cs : List Value} (h : RowsRel O w sz es cs) (hO : ∀ b, O' b → O b) : RowsRel O' w sz es cs :=
  ⟨h.len, h.row, fun p q r x hp hq => let ⟨v, h1, h2, h3⟩ := h.at_ p q r x hp hq; ⟨v, h1, h2, h3.sub hO⟩⟩

theorem RowsRel.append {O : Nat → Prop} {w : World} {sz : Nat} {es fs : List (List AV)} {cs ds : List Value} (h : RowsRel O w sz es cs) (k : RowsRel O w sz fs ds) : RowsRel O w sz (es ++ fs) (cs ++ ds) := by
  refine ⟨by simp [h.len, k.len, Nat.add_mul], ?_, ?_⟩
  · intro p r hp
    rcases Nat.lt_or_ge p es.length with h1 | h1
    · rw [List.getElem?_append_left h1] at hp; exact h.row p r hp
    · rw [List.getElem?_append_right h1] at hp; exact k.row _ r hp
  · intro p q r x hp hq
    rcases Nat.lt_or_ge p es.length with h1 | h1
    · rw [List.getElem?_append_left h1] at hp
      obtain ⟨v, h2, h3, h4⟩ := h.at_ p q r x hp hq
      exact ⟨v, by rw [List.getElem?_append_left (lt_of_get h2)]; exact h2, h3, h4⟩
    · rw [List.getElem?_append_right h1] at hp
      obtain ⟨v, h2, h3, h4⟩ := k.at_ _ q r x hp hq
      have e : p * sz = es.length * sz + (p - es.length) * sz := by rw [← Nat.add_mul]; congr 1; omega
      have hle : cs.length ≤ p * sz + q := by rw [h.len, e]; omega
      refine ⟨v, ?_, h3, h4⟩
      rw [List.getElem?_append_right hle, h.len, e]
      rw [show es.length * sz + (p - es.length) * sz + q - es.length * sz = (p - es.length) * sz + q by omega]
      exact h2

theorem RowsRel.take {O : Nat → Prop} {w : World} {sz : Nat} {es : List (List AV)} {cs : List Value} (h : RowsRel O w sz es cs) (n : Nat) (hn : n ≤ es.length) : RowsRel O w sz (es.take n) (cs.take (n * sz)) := by
  have hle : n * sz ≤ es.length * sz := Nat.mul_le_mul_right sz hn
  refine ⟨by rw [List.length_take, List.length_take, h.len, Nat.min_eq_left hle, Nat.min_eq_left hn], ?_, ?_⟩
  · intro p r hp
    rw [List.getElem?_take] at hp
    split at hp
    · exact h.row p r hp
    · cases hp
  · intro p q r x hp hq
    rw [List.getElem?_take] at hp
    split at hp
    · rename_i hpn
      obtain ⟨v, h2, h3, h4⟩ := h.at_ p q r x hp hq
      have hql : q < sz := by have := lt_of_get hq; rw [h.row p r hp] at this; exact this
      refine ⟨v, ?_, h3, h4⟩
      rw [List.getElem?_take, if_pos (idx_lt hpn hql)]
      exact h2
    · cases hp

theorem RowsRel.drop {O : Nat → Prop} {w : World} {sz : Nat} {es : List (List AV)} {cs : List Value} (h : RowsRel O w sz es cs) (n : Nat) : RowsRel O w sz (es.drop n) (cs.drop (n * sz)) := by
  refine ⟨by simp [h.len, Nat.sub_mul], ?_, ?_⟩
  · intro p r hp
    exact h.row (n + p) r (by simpa using hp)
  · intro p q r x hp hq
    obtain ⟨v, h2, h3, h4⟩ := h.at_ (n + p) q r x (by simpa using hp) hq
    refine ⟨v, ?_, h3, h4⟩
    rw [List.getElem?_drop, ← h2, Nat.add_mul, Nat.add_assoc]

theorem RowsRel.get {O : Nat → Prop} {w : World} {sz : Nat} {es : List (List AV)} {cs : List Value} (h : RowsRel O w sz es cs) {p : Nat} {r : List AV} (hp : es[p]? = some r) :
    RelL O w r ((cs.drop (p * sz)).take sz) := by
  have hl := lt_of_get hp
  have hr := h.row p r hp
  have hle : (p + 1) * sz ≤ es.length * sz := Nat.mul_le_mul_right sz hl
  rw [Nat.add_mul] at hle
  refine ⟨by simp [h.len, hr]; omega, ?_⟩
  intro i x v hx hv
  obtain ⟨u, h2, _, h4⟩ := h.at_ p i r x hp hx
  rw [List.getElem?_take] at hv
  split at hv
  · rw [List.getElem?_drop, h2] at hv
    cases hv
    exact h4
  · cases hv

theorem RowsRel.one {O : Nat → Prop} {w : World} {sz : Nat} {es : List (List AV)} {cs : List Value} (h : RowsRel O w sz es cs) {v : Value} (hv : v ∈ cs) : v.oneCell' = true := by
  obtain ⟨j, hj⟩ := List.getElem?_of_mem hv
  have hjl := lt_of_get hj
  rw [h.len] at hjl
  have hsz : 0 < sz := by
    rcases Nat.eq_zero_or_pos sz with e | e
    · subst e; simp at hjl
    · exact e
  have hp : j / sz < es.length := Nat.div_lt_of_lt_mul (by rw [Nat.mul_comm]; exact hjl)
  have hq : j % sz < sz := Nat.mod_lt _ hsz
  have hr := h.row (j / sz) es[j / sz] (by simp [hp])
  obtain ⟨u, h2, h3, _⟩ := h.at_ (j / sz) (j % sz) es[j / sz] (es[j / sz][j % sz]'(by rw [hr]; exact hq)) (by simp [hp]) (by simp [hr, hq])
  have e : j / sz * sz + j % sz = j := by rw [Nat.mul_comm]; exact Nat.div_add_mod j sz
  rw [e, hj] at h2
  cases h2
  exact h3

theorem RowsRel.set {O : Nat → Prop} {w : World} {sz : Nat} {es : List (List AV)} {cs : List Value} (h : RowsRel O w sz es cs) {p : Nat} (hp : p < es.length) {r : List AV} {us : List Value} (hr : r.length = sz)
    (hu : RelL O w r us) (h1 : ∀ v ∈ us, v.oneCell' = true) : RowsRel O w sz (es.set p r) (cs.take (p * sz) ++ us ++ cs.drop (p * sz + sz)) := by
  have hle : (p + 1) * sz ≤ es.length * sz := Nat.mul_le_mul_right sz hp
  rw [Nat.add_mul, Nat.one_mul] at hle
  have hul : us.length = sz := by rw [hu.1, hr]
  have htl : (cs.take (p * sz)).length = p * sz := by rw [List.length_take, h.len]; omega
  refine ⟨by rw [List.length_append, List.length_append, htl, hul, List.length_drop, List.length_set, h.len]; omega, ?_, ?_⟩
  · intro k s hk
    by_cases hpk : p = k
    · subst hpk
      rw [List.getElem?_set_self hp] at hk
      cases hk; exact hr
    · rw [List.getElem?_set_ne hpk] at hk
      exact h.row k s hk
  · intro k q s x hk hq
    by_cases hpk : p = k
    · subst hpk
      rw [List.getElem?_set_self hp] at hk
      cases hk
      obtain ⟨v, hv, hrel⟩ := hu.get hq
      have hql : q < us.length := lt_of_get hv
      refine ⟨v, ?_, h1 v (List.mem_of_getElem? hv), hrel⟩
      rw [List.append_assoc, List.getElem?_append_right (by rw [htl]; omega), htl, show p * sz + q - p * sz = q by omega, List.getElem?_append_left hql]
      exact hv
    · rw [List.getElem?_set_ne hpk] at hk
      obtain ⟨v, h2, h3, h4⟩ := h.at_ k q s x hk hq
      have hql : q < sz := by have := lt_of_get hq; rw [h.row k s hk] at this; exact this
      refine ⟨v, ?_, h3, h4⟩
      rcases Nat.lt_or_ge k p with hkp | hkp
      · have : k * sz + q < p * sz := idx_lt hkp hql
        rw [List.append_assoc, List.getElem?_append_left (by rw [htl]; exact this), List.getElem?_take, if_pos this]
        exact h2
      · have hkp' : p + 1 ≤ k := by omega
        have : (p + 1) * sz ≤ k * sz := Nat.mul_le_mul_right sz hkp'
        rw [Nat.add_mul, Nat.one_mul] at this
        rw [List.getElem?_append_right (by simp [htl, hul]; omega), List.getElem?_drop, ← h2]
        congr 1
        simp [htl, hul]; omega

theorem rowsRel_of_g {O : Nat → Prop} {w : World} {sz : Nat} {es : List (List AV)} {g : Nat → Nat → Value} (h3 : ∀ (p : Nat) (r : List AV), es[p]? = some r → r.length = sz)
    (h5 : ∀ (p q : Nat) (r : List AV) (x : AV), es[p]? = some r → r[q]? = some x → (g p q).oneCell' = true)
    (h6 : ∀ (p q : Nat) (r : List AV) (x : AV), es[p]? = some r → r[q]? = some x → Rel O w x (g p q)) :
    RowsRel O w sz es ((List.range (es.length * sz)).map fun j => g (j / sz) (j % sz)) := by
  refine ⟨by simp, h3, ?_⟩
  intro p q r x hp hq
  have hpl := lt_of_get hp
  have hql : q < sz := by have := lt_of_get hq; rw [h3 p r hp] at this; exact this
  refine ⟨g p q, ?_, h5 p q r x hp hq, h6 p q r x hp hq⟩
  have hsz : 0 < sz := by omega
  have e1 : (p * sz + q) / sz = p := by rw [Nat.mul_comm, Nat.mul_add_div hsz, Nat.div_eq_of_lt hql]; simp
  have e2 : (p * sz + q) % sz = q := by rw [Nat.mul_comm, Nat.mul_add_mod, Nat.mod_eq_of_lt hql]
  simp [idx_lt hpl hql, e1, e2]

theorem cells_of_g {O : Nat → Prop} {w : World} {sz b o : Nat} {es : List (List AV)} {g : Nat → Nat → Value} (h3 : ∀ (p : Nat) (r : List AV), es[p]? = some r → r.length = sz)
    (h4 : ∀ (p q : Nat) (r : List AV) (x : AV), es[p]? = some r → r[q]? = some x → w.cell? ⟨b, o + (p * sz + q), none⟩ = some (g p q)) (j : Nat) (v : Value)
    (hj : ((List.range (es.length * sz)).map fun j => g (j / sz) (j % sz))[j]? = some v) : w.cell? ⟨b, o + j, none⟩ = some v := by
  have hjl : j < es.length * sz := by have := lt_of_get hj; simpa using this
  have hsz : 0 < sz := by
    rcases Nat.eq_zero_or_pos sz with e | e
    · subst e; simp at hjl
    · exact e
  have hp : j / sz < es.length := Nat.div_lt_of_lt_mul (by rw [Nat.mul_comm]; exact hjl)
  have hq : j % sz < sz := Nat.mod_lt _ hsz
  have hr := h3 (j / sz) es[j / sz] (by simp [hp])
  have := h4 (j / sz) (j % sz) es[j / sz] (es[j / sz][j % sz]'(by rw [hr]; exact hq)) (by simp [hp]) (by simp [hr, hq])
  have e : j / sz * sz + j % sz = j := by rw [Nat.mul_comm]; exact Nat.div_add_mod j sz
  rw [e] at this
  rw [this]
  simpa [hjl] using hj

theorem g_of_rowsRel {O : Nat → Prop} {w : World} {sz b o : Nat} {es : List (List AV)} {cs : List Value} (h : RowsRel O w sz es cs) (hc : ∀ (j : Nat) (v : Value), cs[j]? = some v → w.cell? ⟨b, o + j, none⟩ = some v) :
    ∃ g : Nat → Nat → Value, (∀ (p q : Nat) (r : List AV) (x : AV), es[p]? = some r → r[q]? = some x → w.cell? ⟨b, o + (p * sz + q), none⟩ = some (g p q)) ∧
      (∀ (p q : Nat) (r : List AV) (x : AV), es[p]? = some r → r[q]? = some x → (g p q).oneCell' = true) ∧
      (∀ (p q : Nat) (r : List AV) (x : AV), es[p]? = some r → r[q]? = some x → Rel O w x (g p q)) := by
  refine ⟨fun p q => cs.getD (p * sz + q) undef, ?_, ?_, ?_⟩
  · intro p q r x hp hq
    obtain ⟨v, h1, h2, h3⟩ := h.at_ p q r x hp hq
    rw [hc _ v h1]; simp [List.getD, h1]
  · intro p q r x hp hq
    obtain ⟨v, h1, h2, h3⟩ := h.at_ p q r x hp hq
    simpa [List.getD, h1] using h2
  · intro p q r x hp hq
    obtain ⟨v, h1, h2, h3⟩ := h.at_ p q r x hp hq
    simpa [List.getD, h1] using h3

theorem rel_vsl {O : Nat → Prop} {w : World} {sz b o cap : Nat} {es : List (List AV)} {cs : List Value} {cl : Bool} (h : RowsRel O w sz es cs) (hc : ∀ (j : Nat) (v : Value), cs[j]? = some v → w.cell? ⟨b, o + j, none⟩ = some v)
    (h1 : es.length ≤ cap) (h2 : cap ≤ maxLen) (h3 : cl = true → cap = es.length) (h4 : ¬ O b) (h5 : b < w.heap.size) : Rel O w (.vsl es cl) (.slice (some ⟨b, o, none⟩) es.length cap) := by
  obtain ⟨g, g1, g2, g3⟩ := g_of_rowsRel h hc
  exact .vsl es cl b o sz cap g h1 h2 h3 (fun _ => h4) h5 h.row g1 g2 g3
theorem rel_vslc {O : Nat → Prop} {w : World} {sz b o cap : Nat} {es : List (List AV)} {cs : List Value} {cl : Bool} (h : RowsRel O w sz es cs) (hc : ∀ (j : Nat) (v : Value), cs[j]? = some v → w.cell? ⟨b, o + j, none⟩ = some v)
    (h1 : es.length ≤ cap) (h2 : cap ≤ maxLen) (h3 : cl = true → cap = es.length) (h4 : cap ≠ 0 → ¬ O b) (h5 : b < w.heap.size) : Rel O w (.vsl es cl) (.slice (some ⟨b, o, none⟩) es.length cap) := by
  obtain ⟨g, g1, g2, g3⟩ := g_of_rowsRel h hc
  exact .vsl es cl b o sz cap g h1 h2 h3 h4 h5 h.row g1 g2 g3

theorem rel_vptr {O : Nat → Prop} {w : World} {sz b o i j : Nat} {es : List (List AV)} {cs : List Value} (h : RowsRel O w sz es cs) (hc : ∀ (j : Nat) (v : Value), cs[j]? = some v → w.cell? ⟨b, o + j, none⟩ = some v)
    (h4 : ¬ O b) (h5 : b < w.heap.size) : Rel O w (.vptr es i j) (.pointer (some ⟨b, o + (i * sz + j), none⟩)) := by
  obtain ⟨g, g1, g2, g3⟩ := g_of_rowsRel h hc
  exact .vptr es i j b o sz g h4 h5 h.row g1 g2 g3

theorem HRel.rows {H : AHeap} {w : World} (h : HRel H w) {b : Nat} {k : ABlk} (hb : H b = some k) (hz : k.sz ≠ 0) :
    ∃ c : Array Value, w.heap[b]? = some (.cells c k.ty (0, 0)) ∧ k.es.length * k.sz ≤ c.size ∧ RowsRel H.dom w k.sz k.es (c.toList.take (k.es.length * k.sz)) := by
  obtain ⟨c, h1, h2, h3, h4⟩ := h.blk b k hb hz
  refine ⟨c, h1, h2, by simp; omega, h3, ?_⟩
  intro p q r x hp hq
  obtain ⟨v, hv, ho, hr⟩ := h4 p q r x hp hq
  have hql : q < k.sz := by have := lt_of_get hq; rw [h3 p r hp] at this; exact this
  refine ⟨v, ?_, ho, hr⟩
  rw [List.getElem?_take, if_pos (idx_lt (lt_of_get hp) hql)]
  simpa using hv

theorem blk_of_rows {O : Nat → Prop} {w : World} {sz : Nat} {es : List (List AV)} {c : Array Value} (h : RowsRel O w sz es (c.toList.take (es.length * sz))) :
    (∀ (p : Nat) (r : List AV), es[p]? = some r → r.length = sz) ∧
    (∀ (p q : Nat) (r : List AV) (x : AV), es[p]? = some r → r[q]? = some x → ∃ v, c[p * sz + q]? = some v ∧ v.oneCell' = true ∧ Rel O w x v) := by
  refine ⟨h.row, fun p q r x hp hq => ?_⟩
  obtain ⟨v, hv, ho, hr⟩ := h.at_ p q r x hp hq
  rw [List.getElem?_take] at hv
  split at hv
  · exact ⟨v, by simpa using hv, ho, hr⟩
  · cases hv

theorem HRel.mk' {H : AHeap} {w : World} (hm : ∀ b k, H b = some k → k.sz = 0 → MapAt w b k.es) (h : ∀ b k, H b = some k → k.sz ≠ 0 → ∃ c : Array Value, w.heap[b]? = some (.cells c k.ty (0, 0)) ∧ k.es.length * k.sz ≤ c.size ∧ RowsRel H.dom w k.sz k.es (c.toList.take (k.es.length * k.sz))) : HRel H w :=
  ⟨hm, fun b k hb hz => let ⟨c, h1, h2, h3⟩ := h b k hb hz; let ⟨h4, h5⟩ := blk_of_rows h3; ⟨c, h1, h2, h4, h5⟩⟩

/-! ### How worlds go on -/
theorem ev_alloc (O : Nat → Prop) (w : World) (o : Obj) : Ev O w (w.alloc o) := by
  refine ⟨rfl, rfl, rfl, by simp, fun b hb _ => RowKit.Below.heap_alloc w o b hb, fun b c t fr h => ⟨c, ?_, rfl⟩⟩
  rw [RowKit.Below.heap_alloc w o b (Array.getElem?_eq_some_iff.1 h).1]; exact h
theorem ev_drew (O : Nat → Prop) (w : World) : Ev O w w.drew := ⟨rfl, rfl, rfl, Nat.le_refl _, fun _ _ _ => rfl, fun _ c _ _ h => ⟨c, h, rfl⟩⟩
theorem ev_bytesWorld (O : Nat → Prop) (w : World) (e : TypeId) (s : ByteArray) : Ev O w (Lib.bytesWorld w e s) := by
  refine ⟨rfl, rfl, rfl, by rw [Lib.bytesWorld_size]; omega, fun b hb _ => Lib.bytesWorld_at_old w e s b hb, fun b c t fr h => ⟨c, ?_, rfl⟩⟩
  rw [Lib.bytesWorld_at_old w e s b (Array.getElem?_eq_some_iff.1 h).1]; exact h
theorem ev_setRow {O : Nat → Prop} {w : World} {b : Nat} {c c' : Array Value} {t : TypeId} {fr : Nat × Nat} (hO : O b) (hb : w.heap[b]? = some (.cells c t fr)) (hs : c'.size = c.size) : Ev O w (w.setRow b c') := by
  refine ⟨rfl, rfl, rfl, by simp, fun k hk ho => setRow_other w b k c' (fun e => ho (e ▸ hO)), fun k d u f h => ?_⟩
  by_cases e : k = b
  · subst e
    rw [hb] at h
    cases h
    exact ⟨c', setRow_heap w k c c' t fr hb, hs⟩
  · exact ⟨d, (setRow_other w b k c' e).trans h, rfl⟩

theorem AHeap.set_self (H : AHeap) (b : Nat) (k : ABlk) : H.set b k b = some k := by simp [AHeap.set]
theorem AHeap.set_ne (H : AHeap) {b c : Nat} (k : ABlk) (h : c ≠ b) : H.set b k c = H c := by simp [AHeap.set, h]
theorem AHeap.dom_set {H : AHeap} {b : Nat} {k : ABlk} {c : Nat} (h : (H.set b k).dom c) : c = b ∨ H.dom c := by
  by_cases e : c = b
  · exact .inl e
  · right; unfold AHeap.dom at *; rwa [AHeap.set_ne H k e] at h
theorem AHeap.del_le (H : AHeap) (b : Nat) : (H.del b).le H := by
  intro c k h
  unfold AHeap.del at h
  split at h
  · cases h
  · exact h
theorem AHeap.le_refl (H : AHeap) : H.le H := fun _ _ h => h
theorem AHeap.le_trans {H K L : AHeap} (h : H.le K) (k : K.le L) : H.le L := fun b x hb => k b x (h b x hb)

theorem fresh_set_new (H : AHeap) (w : World) (k : ABlk) : Fresh H.dom (H.set w.heap.size k).dom w := by
  intro b hb
  rcases AHeap.dom_set hb with e | e
  · exact .inr (by omega)
  · exact .inl e
theorem heap_new (w : World) (o : Obj) : (w.alloc o).heap[w.heap.size]? = some o := heap_alloc_new w o

theorem hrel_alloc {H : AHeap} {w : World} (h : HRel H w) (k : ABlk) (hkz : k.sz ≠ 0) (c : Array Value) (hs : k.es.length * k.sz ≤ c.size) (hr : RowsRel H.dom w k.sz k.es (c.toList.take (k.es.length * k.sz))) :
    HRel (H.set w.heap.size k) (w.alloc (.cells c k.ty)) := by
  have hk := ev_alloc H.dom w (.cells c k.ty)
  have hf := fresh_set_new H w k
  refine HRel.mk' (fun b x hb hz => ?_) fun b x hb hz => ?_
  · by_cases e : b = w.heap.size
    · subst e
      rw [AHeap.set_self] at hb
      cases hb
      exact absurd hz hkz
    · rw [AHeap.set_ne H k e] at hb
      exact (h.mp b x hb hz).same (RowKit.Below.heap_alloc w _ b (h.lt (by simp [AHeap.dom, hb])))
  by_cases e : b = w.heap.size
  · subst e
    rw [AHeap.set_self] at hb
    cases hb
    exact ⟨c, heap_new w _, hs, hr.step hk hf⟩
  · rw [AHeap.set_ne H k e] at hb
    obtain ⟨d, h1, h2, h3⟩ := h.rows hb hz
    refine ⟨d, ?_, h2, h3.step hk hf⟩
    rw [RowKit.Below.heap_alloc w _ b (h.lt (by simp [AHeap.dom, hb]))]
    exact h1

theorem hrel_setRow {H : AHeap} {w : World} (h : HRel H w) {b : Nat} {k k' : ABlk} (hkz : k'.sz ≠ 0) (hb : H b = some k) {c c' : Array Value} (hc : w.heap[b]? = some (.cells c k.ty (0, 0))) (hcs : c'.size = c.size) (ht : k'.ty = k.ty)
    (hs : k'.es.length * k'.sz ≤ c'.size) (hr : RowsRel H.dom w k'.sz k'.es (c'.toList.take (k'.es.length * k'.sz))) : HRel (H.set b k') (w.setRow b c') := by
  have hdom : H.dom b := by simp [AHeap.dom, hb]
  have hk := ev_setRow (O := H.dom) (c' := c') hdom hc hcs
  have hf : Fresh H.dom (H.set b k').dom w := by
    intro x hx
    rcases AHeap.dom_set hx with e | e
    · subst e; exact .inl hdom
    · exact .inl e
  refine HRel.mk' (fun x y hx hz => ?_) fun x y hx hz => ?_
  · by_cases e : x = b
    · subst e
      rw [AHeap.set_self] at hx
      cases hx
      exact absurd hz hkz
    · rw [AHeap.set_ne H k' e] at hx
      exact (h.mp x y hx hz).same (setRow_other w b x c' e)
  by_cases e : x = b
  · subst e
    rw [AHeap.set_self] at hx
    cases hx
    exact ⟨c', by rw [ht]; exact setRow_heap w x c c' k.ty (0, 0) hc, hs, hr.step hk hf⟩
  · rw [AHeap.set_ne H k' e] at hx
    obtain ⟨d, h1, h2, h3⟩ := h.rows hx hz
    exact ⟨d, (setRow_other w b x c' e).trans h1, h2, h3.step hk hf⟩

end Go.Sim
