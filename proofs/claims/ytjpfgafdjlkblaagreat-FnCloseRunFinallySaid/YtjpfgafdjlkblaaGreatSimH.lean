/- The calculus: append. No condition. -/
import Derived.Test.YtjpfgafdjlkblaaGreatSimG
namespace Go.Sim
open Go
section
variable {P : Program} {s : ASt} {a : Act} {w : World} {K : AV → AHeap → Prop}

def rowsOf (H : AHeap) (x : AV) : Option (List (List AV)) :=
  match x with
  | .vsl es _ => some es
  | .sl b sz off len _ => match H b with
    | some k => if k.sz = sz ∧ off + len ≤ k.es.length then some ((k.es.drop off).take len) else none
    | none => none
  | _ => none

def appendA (P : Program) (H : AHeap) (t : TypeId) (d x : AV) (K : AV → AHeap → Prop) : Prop :=
  match telem P t, rowsOf H x with
  | some e, some es => match tinfo P e with
    | some ti => 0 < ti.size ∧ (∀ r ∈ es, r.length = ti.size) ∧ (match d with
      | .sl b sz off len _ => match H b with
        | some k => k.sz = ti.size ∧ sz = ti.size ∧ k.ty = e ∧ off = 0 ∧ len ≤ k.es.length ∧ len + es.length ≤ maxLen ∧ (len + es.length) * ti.bytes ≤ 140737488355328 ∧
            ∀ b', (H.del b) b' = none → K (.sl b' ti.size 0 (len + es.length) false) ((H.del b).set b' ⟨ti.size, e, k.es.take len ++ es⟩)
        | none => False
      | .vsl ds cl => (∀ r ∈ ds, r.length = ti.size) ∧ ds.length + es.length ≤ maxLen ∧ (ds.length + es.length) * ti.bytes ≤ 140737488355328 ∧ (es = [] → K (.vsl ds cl) H) ∧
          (es ≠ [] → cl = true ∧ ∀ b', H b' = none → K (.sl b' ti.size 0 (ds.length + es.length) false) (H.set b' ⟨ti.size, e, ds ++ es⟩))
      | _ => False)
    | none => False
  | _, _ => False

theorem src_spec {H : AHeap} {x : AV} {v : Value} {es : List (List AV)} {n : Nat} (hx : Rel H.dom w x v) (hh : HRel H w) (h : rowsOf H x = some es) (hr : ∀ r ∈ es, r.length = n) :
    ∃ ad cap, v = .slice ad es.length cap ∧ ((ad = none ∧ es = [] ∧ cap = 0) ∨ ∃ b o cs, ad = some ⟨b, o, none⟩ ∧ RowsRel H.dom w n es cs ∧ ∀ (j : Nat) (u : Value), cs[j]? = some u → w.cell? ((⟨b, o, none⟩ : Addr).add j) = some u) := by
  have fix : ∀ {m : Nat} {cs : List Value} {b o : Nat}, RowsRel H.dom w m es cs → (∀ (j : Nat) (u : Value), cs[j]? = some u → w.cell? ⟨b, o + j, none⟩ = some u) →
      ∃ cs, RowsRel H.dom w n es cs ∧ ∀ (j : Nat) (u : Value), cs[j]? = some u → w.cell? ((⟨b, o, none⟩ : Addr).add j) = some u := by
    intro m cs b o h1 h2
    cases es with
    | nil => exact ⟨[], RowsRel.nil _ _ _, fun j u hj => by simp at hj⟩
    | cons r es =>
      have : m = n := by rw [← h1.row 0 r rfl]; exact hr r (by simp)
      subst this
      exact ⟨cs, h1, fun j u hj => by rw [add_plain]; exact h2 j u hj⟩
  unfold rowsOf at h
  cases hx with
  | vnil cl => cases h; exact ⟨none, 0, rfl, .inl ⟨rfl, rfl, rfl⟩⟩
  | vsl es' cl b o sz cap g h1 h2 h3 h4 h5 h6 h7 h8 h9 =>
    cases h
    obtain ⟨cs, g1, g2⟩ := fix (rowsRel_of_g h6 h8 h9) (fun j u hj => cells_of_g (O := H.dom) h6 h7 j u hj)
    exact ⟨_, cap, rfl, .inr ⟨b, o, cs, rfl, g1, g2⟩⟩
  | sl b sz off len cap cl c t fr h1 h2 h3 h4 h5 hz0 =>
    simp only at h
    cases hb : H b with
    | none => simp [hb] at h
    | some k =>
      simp only [hb] at h
      split at h
      · rename_i hc
        cases h
        obtain ⟨c', g1, g2, g3⟩ := hh.rows hb (by rw [hc.1]; exact hz0)
        have hlen : ((k.es.drop off).take len).length = len := by simp; omega
        have hrows := (g3.drop off).take len (by simp; omega)
        have hcells : ∀ (j : Nat) (u : Value), (((c'.toList.take (k.es.length * k.sz)).drop (off * k.sz)).take (len * k.sz))[j]? = some u → w.cell? ⟨b, off * k.sz + j, none⟩ = some u := by
          intro j u hj
          rw [List.getElem?_take] at hj
          split at hj
          · rw [List.getElem?_drop, List.getElem?_take] at hj
            split at hj
            · have : c'[off * k.sz + j]? = some u := by simpa using hj
              simp [World.cell?, g1, this]
            · cases hj
          · cases hj
        obtain ⟨cs, f1, f2⟩ := fix hrows hcells
        refine ⟨some ⟨b, off * sz, none⟩, cap, by rw [hlen], .inr ⟨b, off * sz, cs, rfl, f1, ?_⟩⟩
        rw [← hc.1]; exact f2
      · cases h
  | _ => cases h

theorem AHeap.del_set (H : AHeap) (b : Nat) (k : ABlk) : (H.del b).set b k = H.set b k := by
  funext c
  unfold AHeap.set AHeap.del
  split
  · rfl
  · rfl

theorem run_append_none {t ty e : TypeId} {i : TypeInfo} (ht : P.underlying t = some (.slice e)) (hi : P.info? e = some i) (ad : Option Addr) (len cap : Nat) (hc : len ≤ cap) :
    (Builtin.append_ #[t, t] ty #[.slice ad len cap, .slice none 0 0]).run P w = .ok (.slice ad len cap) w := by
  cases ad <;> simp [Builtin.append_, run_underlying ht, sizeOf, typeInfo, hi, Builtin.lenOf, Builtin.firstCells, hc, storeCells]

theorem run_append_nothing {t ty e : TypeId} {i : TypeInfo} (ht : P.underlying t = some (.slice e)) (hi : P.info? e = some i) (ad : Option Addr) (len cap : Nat) (hc : len ≤ cap) (sa : Addr) (sc : Nat) :
    (Builtin.append_ #[t, t] ty #[.slice ad len cap, .slice (some sa) 0 sc]).run P w = .ok (.slice ad len cap) w := by
  cases ad <;> simp [Builtin.append_, run_underlying ht, sizeOf, typeInfo, hi, Builtin.lenOf, Builtin.firstCells, hc, storeCells, loadCells, loadCellsFrom]

theorem grown_block {H : AHeap} (hh : HRel H w) {n : Nat} (hn0 : n ≠ 0) {ds es : List (List AV)} {us vs : List Value} (h1 : RowsRel H.dom w n ds us) (h2 : RowsRel H.dom w n es vs) {z : Array Value} (hz : z.size = n) {cap : Nat} (hc : ds.length + es.length ≤ cap) (hm : cap ≤ maxLen) (e : TypeId) :
    let W := w.drew.alloc (.cells (us.toArray ++ vs.toArray ++ Builtin.zeroCells z (cap - (ds.length + es.length))) e)
    let H' := H.set w.heap.size ⟨n, e, ds ++ es⟩
    HRel H' W ∧ Rel H'.dom W (.sl w.heap.size n 0 (ds.length + es.length) false) (.slice (some ⟨w.heap.size, 0, none⟩) (ds.length + es.length) cap) ∧ Ev H.dom w W ∧ Fresh H.dom H'.dom w := by
  have hd : HRel H w.drew := hh.keep (ev_drew _ _) (fun _ _ => rfl)
  have e1 : (us ++ vs).length = (ds ++ es).length * n := by rw [(h1.append h2).len]
  have hrows : RowsRel H.dom w.drew n (ds ++ es) (us ++ vs) := (h1.append h2).step (ev_drew _ _) (.refl _ _)
  have hsz : (us.toArray ++ vs.toArray ++ Builtin.zeroCells z (cap - (ds.length + es.length))).size = cap * n := by
    simp only [Array.size_append, List.size_toArray, size_zeroCells, hz, h1.len, h2.len, ← Nat.add_mul]
    congr 1; omega
  have hnr := new_rows (w := w.drew) hd hn0 (es := ds ++ es) (c := us.toArray ++ vs.toArray ++ Builtin.zeroCells z (cap - (ds.length + es.length))) (sz := n) e
    (by rw [hsz]; exact Nat.mul_le_mul_right _ (by simpa using hc))
    (by
      have : (us.toArray ++ vs.toArray ++ Builtin.zeroCells z (cap - (ds.length + es.length))).toList.take ((ds ++ es).length * n) = us ++ vs := by
        rw [← e1]; simp only [Array.toList_append]
        exact List.take_left
      rw [this]; exact hrows)
    (n := ds.length + es.length) (cap := cap) hc hm (by rw [hsz]; exact Nat.le_refl _) false (by simp)
  obtain ⟨k1, k2, k3, k4⟩ := hnr
  exact ⟨k1, k2, (ev_drew H.dom w).trans (.refl _ _) k3, k4⟩

theorem appendA_sound (h : StRel s a w) {t ty : TypeId} {d x : AV} {dv xv : Value} (hd : Rel s.H.dom w d dv) (hx : Rel s.H.dom w x xv) (hk : appendA P s.H t d x K) :
    ∃ v w' r H', (Builtin.append_ #[t, t] ty #[dv, xv]).run P w = .ok v w' ∧ K r H' ∧ Rel H'.dom w' r v ∧ HRel H' w' ∧ Ev s.H.dom w w' ∧ Fresh s.H.dom H'.dom w := by
  unfold appendA at hk
  split at hk
  · rename_i e es he hes
    have hu := telem_spec he
    split at hk
    · rename_i ti hti
      obtain ⟨i, dd, z, hi, hdd, hz, hsz, hby, hag, hzl, hzs, hz1⟩ := tinfo_spec hti
      obtain ⟨hpos, hrl, hk⟩ := hk
      obtain ⟨sad, scap, rfl, hsrc⟩ := src_spec hx h.heap hes hrl
      split at hk
      · rename_i b sz off len cl
        split at hk
        · rename_i k hb
          obtain ⟨c0, c1, c2, c3, c4, c5, c6, hk⟩ := hk
          subst c1 c3
          cases hd with
          | sl b sz off len cap cl c t' fr h1 h2 h3 h4 h5 =>
            have hz0 : ti.size ≠ 0 := by omega
            obtain ⟨cur, g1, g2, g3⟩ := h.heap.rows hb (by rw [c0]; exact hz0)
            rw [g1] at h4
            cases h4
            simp only [Nat.zero_mul, Nat.zero_add] at h5 ⊢
            have hdom : s.H.dom b := by simp [AHeap.dom, hb]
            by_cases hroom : len + es.length ≤ cap
            · -- there is room: the block itself
              obtain ⟨news, hn1, hrun⟩ : ∃ news, RowsRel s.H.dom w ti.size es news ∧ (Builtin.append_ #[t, t] ty #[.slice (some ⟨b, 0, none⟩) len cap, .slice sad es.length scap]).run P w =
                  .ok (.slice (some ⟨b, 0, none⟩) (len + es.length) cap) (w.setRow b (c.toList.take (len * ti.size) ++ news ++ c.toList.drop (len * ti.size + news.length)).toArray) := by
                rcases hsrc with ⟨rfl, rfl, rfl⟩ | ⟨sb, so, cs, rfl, r1, r2⟩
                · refine ⟨[], RowsRel.nil _ _ _, ?_⟩
                  have e0 : (c.toList.take (len * ti.size) ++ [] ++ c.toList.drop (len * ti.size + ([] : List Value).length)).toArray = c := by simp
                  rw [e0, setRow_self w b c k.ty (0, 0) g1]
                  exact run_append_none hu hi _ len cap h1
                · refine ⟨cs, r1, ?_⟩
                  have hcl : cs.length = es.length * i.size := by rw [r1.len, hsz]
                  have := run_append_room (P := P) w t ty e i hu hi b len cap c (by rw [← c2]; exact g1) ⟨sb, so, none⟩ es.length scap cs hcl r2 (fun u hu => r1.one hu) hroom (by
                    rw [hcl, hsz, ← Nat.add_mul]
                    exact Nat.le_trans (Nat.mul_le_mul_right _ hroom) h5)
                  rw [hsz] at this
                  exact this
              have hnl : news.length = es.length * ti.size := hn1.len
              have hfit : len * ti.size + news.length ≤ c.size := by
                rw [hnl, ← Nat.add_mul]; exact Nat.le_trans (Nat.mul_le_mul_right _ hroom) h5
              have hle : len * ti.size ≤ k.es.length * ti.size := Nat.mul_le_mul_right _ c4
              have hcs : (c.toList.take (len * ti.size) ++ news ++ c.toList.drop (len * ti.size + news.length)).toArray.size = c.size := by
                have e3 : c.toList.length = c.size := Array.length_toList
                have e1 : len * ti.size ≤ c.toList.length := by omega
                rw [List.size_toArray, List.length_append, List.length_append, List.length_take, List.length_drop, Nat.min_eq_left e1]
                omega
              have hold := g3.take len c4
              rw [c0, List.take_take, Nat.min_eq_left hle] at hold
              have hall := hold.append hn1
              have htot : (k.es.take len ++ es).length = len + es.length := by simp; omega
              have hHR := hrel_setRow h.heap (by exact hz0) hb (k' := ⟨ti.size, e, k.es.take len ++ es⟩) g1 hcs c2.symm (by
                rw [hcs]; simp only [htot]; rw [Nat.add_mul, ← hnl]; exact hfit) (by
                simp only [htot]
                have : (c.toList.take (len * ti.size) ++ news ++ c.toList.drop (len * ti.size + news.length)).toArray.toList.take ((len + es.length) * ti.size) = c.toList.take (len * ti.size) ++ news := by
                  have hl2 : (c.toList.take (len * ti.size) ++ news).length = (len + es.length) * ti.size := by
                    rw [List.length_append, List.length_take, hnl, Nat.add_mul, Array.length_toList, Nat.min_eq_left (by omega)]
                  rw [← hl2]
                  exact List.take_left
                rw [this]; exact hall)
              refine ⟨_, _, _, _, hrun, hk b (by simp [AHeap.del]), ?_, by rw [AHeap.del_set]; exact hHR, ev_setRow hdom g1 hcs, ?_⟩
              · have hr := Rel.sl (O := ((s.H.del b).set b ⟨ti.size, e, k.es.take len ++ es⟩).dom) (w := w.setRow b (c.toList.take (len * ti.size) ++ news ++ c.toList.drop (len * ti.size + news.length)).toArray) b ti.size 0 (len + es.length) cap false _ k.ty (0, 0) hroom h2 (by simp) (setRow_heap w b c _ k.ty (0, 0) g1) (by rw [hcs]; simpa using h5) hz0
                simpa using hr
              · intro y hy
                rcases AHeap.dom_set hy with q | q
                · subst q; exact .inl hdom
                · exact .inl ((AHeap.del_le s.H b).dom q)
            · -- it grows
              have hcap : cap < len + es.length := by omega
              have hes0 : es ≠ [] := by intro q; subst q; simp at hcap; omega
              rcases hsrc with ⟨_, q, _⟩ | ⟨sb, so, cs, rfl, r1, r2⟩
              · exact absurd q hes0
              · have hold := g3.take len c4
                have hle : len * ti.size ≤ k.es.length * ti.size := Nat.mul_le_mul_right _ c4
                rw [c0, List.take_take, Nat.min_eq_left hle] at hold
                have hlen : (k.es.take len).length = len := by simp; omega
                have hol : (c.toList.take (len * ti.size)).length = len * i.size := by rw [hold.len, hlen, hsz]
                have holds : ∀ (j : Nat) (v : Value), (c.toList.take (len * ti.size))[j]? = some v → w.cell? ((⟨b, 0, none⟩ : Addr).add j) = some v := by
                  intro j v hj
                  rw [List.getElem?_take] at hj
                  split at hj
                  · have : c[j]? = some v := by simpa using hj
                    rw [add_plain]; simp [World.cell?, g1, this]
                  · cases hj
                have hrun := run_append_grow (P := P) w t ty e i z hu hi hz ⟨b, 0, none⟩ len cap _ hol holds ⟨sb, so, none⟩ es.length scap cs (by rw [r1.len, hsz]) r2 hcap (by unfold maxLen at c5; omega) (growslice_fits hcap (by rw [hby]; exact c6))
                have hdel := h.heap.sub (AHeap.del_le s.H b)
                have sub : ∀ b', (s.H.del b).dom b' → s.H.dom b' := fun b' hb' => (AHeap.del_le s.H b).dom hb'
                have hg := grown_block hdel hz0 (hold.sub sub) (r1.sub sub) (z := z.cells) (by rw [hzs]) (cap := grownCap w (len + es.length) cap e) (by rw [hlen]; exact grownCap_ge w _ _ e) (grownCap_le_maxLen w _ _ e c5) e
                simp only [hlen] at hg
                obtain ⟨k1, k2, k3, k4⟩ := hg
                have hfr : (s.H.del b) w.heap.size = none := hdel.fresh
                refine ⟨_, _, _, _, hrun, hk w.heap.size hfr, k2, k1, ⟨k3.os, k3.tape, k3.output, k3.size, fun y hy hny => k3.keep y hy (fun q => hny (sub y q)), k3.shape⟩, ?_⟩
                intro y hy
                rcases k4 y hy with q | q
                · exact .inl (sub y q)
                · exact .inr q
        · exact hk.elim
      · rename_i ds cl
        obtain ⟨c1, c2, c3, k0, k1⟩ := hk
        by_cases hes0 : es = []
        · subst hes0
          have hrun : ∀ ad len cap, len ≤ cap → (Builtin.append_ #[t, t] ty #[.slice ad len cap, .slice sad ([] : List (List AV)).length scap]).run P w = .ok (.slice ad len cap) w := by
            intro ad len cap hlc
            rcases hsrc with ⟨rfl, _, rfl⟩ | ⟨sb, so, cs, rfl, _, _⟩
            · exact run_append_none hu hi ad len cap hlc
            · exact run_append_nothing hu hi ad len cap hlc _ _
          cases hd with
          | vnil cl => exact ⟨_, _, _, _, hrun _ _ _ (Nat.le_refl _), k0 rfl, .vnil cl, h.heap, .refl _ _, .refl _ _⟩
          | vsl ds cl b o sz cap g h1 h2 h3 h4 h5 h6 h7 h8 h9 => exact ⟨_, _, _, _, hrun _ _ _ h1, k0 rfl, .vsl ds cl b o sz cap g h1 h2 h3 h4 h5 h6 h7 h8 h9, h.heap, .refl _ _, .refl _ _⟩
        · obtain ⟨hcl, hk⟩ := k1 hes0
          have hn0 : 0 < es.length := by cases es with
            | nil => exact absurd rfl hes0
            | cons r es => simp
          rcases hsrc with ⟨_, q, _⟩ | ⟨sb, so, cs, rfl, r1, r2⟩
          · exact absurd q hes0
          · cases hd with
            | vnil cl =>
              simp only [List.length_nil, Nat.zero_add, List.nil_append] at c2 c3 hk
              have hrun := run_append_nil (P := P) w t ty e i z hu hi hz ⟨sb, so, none⟩ es.length scap cs (by rw [r1.len, hsz]) r2 hn0 (by unfold maxLen at c2; omega) (by rw [hby]; omega)
              have hg := grown_block h.heap (by omega) (RowsRel.nil s.H.dom w ti.size) r1 (z := z.cells) (by rw [hzs]) (cap := grownCap w es.length 0 e) (by simpa using grownCap_ge w es.length 0 e) (grownCap_le_maxLen w _ _ e c2) e
              simp only [List.length_nil, Nat.zero_add, List.nil_append] at hg
              obtain ⟨k1, k2, k3, k4⟩ := hg
              have e0 : (([] : List Value).toArray ++ cs.toArray ++ Builtin.zeroCells z.cells (grownCap w es.length 0 e - es.length)) = (cs.toArray ++ Builtin.zeroCells z.cells (grownCap w es.length 0 e - es.length)) := by simp
              rw [e0] at k1 k2 k3
              exact ⟨_, _, _, _, hrun, hk w.heap.size h.heap.fresh, k2, k1, k3, k4⟩
            | vsl ds cl b o sz cap g h1 h2 h3 h4 h5 h6 h7 h8 h9 =>
              have hcap : cap = ds.length := h3 hcl
              subst hcap
              obtain ⟨olds, o1, o2⟩ : ∃ olds, RowsRel s.H.dom w ti.size ds olds ∧ ∀ (j : Nat) (u : Value), olds[j]? = some u → w.cell? ((⟨b, o, none⟩ : Addr).add j) = some u := by
                cases ds with
                | nil => exact ⟨[], RowsRel.nil _ _ _, fun j u hj => by simp at hj⟩
                | cons r ds =>
                  have e1 : sz = ti.size := by rw [← h6 0 r rfl]; exact c1 r (by simp)
                  rw [e1] at h6 h7
                  exact ⟨_, rowsRel_of_g h6 h8 h9, fun j u hj => by rw [add_plain]; exact cells_of_g (O := s.H.dom) h6 h7 j u hj⟩
              have hgt : ds.length < ds.length + es.length := by omega
              have hrun := run_append_grow (P := P) w t ty e i z hu hi hz ⟨b, o, none⟩ ds.length ds.length olds (by rw [o1.len, hsz]) o2 ⟨sb, so, none⟩ es.length scap cs (by rw [r1.len, hsz]) r2 hgt (by unfold maxLen at c2; omega) (growslice_fits hgt (by rw [hby]; exact c3))
              have hg := grown_block h.heap (by omega) o1 r1 (z := z.cells) (by rw [hzs]) (cap := grownCap w (ds.length + es.length) ds.length e) (grownCap_ge w _ _ e) (grownCap_le_maxLen w _ _ e c2) e
              obtain ⟨k1, k2, k3, k4⟩ := hg
              exact ⟨_, _, _, _, hrun, hk w.heap.size h.heap.fresh, k2, k1, k3, k4⟩
      · exact hk.elim
    · exact hk.elim
  · exact hk.elim

end
end Go.Sim
