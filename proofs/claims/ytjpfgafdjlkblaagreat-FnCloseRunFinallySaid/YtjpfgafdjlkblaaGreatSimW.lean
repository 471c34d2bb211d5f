/- The calculus: numbers sorted in their place, out of the library's contract. No condition. -/
import Derived.Test.YtjpfgafdjlkblaaGreatSimV
import Derived.Sort.Grow
namespace Go.Sim
open Go

theorem ec_grow (w : World) (os : Array Obj) : Ec w (Sort.grow w os) :=
  ⟨rfl, rfl, rfl, by simp, fun b c t fr hc => by
    have := (Array.getElem?_eq_some_iff.1 hc).1
    exact (Sort.heap_grow_old w os this).trans hc, fun b ms n hc => by
    have := (Array.getElem?_eq_some_iff.1 hc).1
    exact (Sort.heap_grow_old w os this).trans hc⟩
theorem ev_grow (O : Nat → Prop) (w : World) (os : Array Obj) : Ev O w (Sort.grow w os) :=
  ⟨rfl, rfl, rfl, by simp, fun b hb _ => Sort.heap_grow_old w os hb, fun b c t fr hc => ⟨c, (ec_grow w os).cells b c t fr hc, rfl⟩⟩
theorem ev_ahead (O : Nat → Prop) (w : World) (n : Nat) : Ev O w (Sort.ahead w n) := ⟨rfl, rfl, rfl, Nat.le_refl _, fun _ _ _ => rfl, fun _ c _ _ h => ⟨c, h, rfl⟩⟩
theorem mapBlock_setRow {w : World} {b : Nat} {c : Array Value} {t : TypeId} {fr : Nat × Nat} (f : Array Value → Array Value) (h : w.heap[b]? = some (.cells c t fr)) : Sort.mapBlock w b f = w.setRow b (f c) := by
  rw [Sort.mapBlock_congr w b f (fun _ => f c) (fun c' e fr' h' => by rw [h] at h'; cases h'; rfl)]
  unfold Sort.mapBlock World.setRow
  congr 1

def sortI (l : List Int) : List Int := l.mergeSort fun x y => decide (x ≤ y)
theorem sortI_len (l : List Int) : (sortI l).length = l.length := List.length_mergeSort l

theorem acalls_sort {P : Program} {f : FuncId} (hB : hasBody P f = true)
    (hc : ∀ (blk off cap : Nat) (zs : List Int) (w : World), Sort.Holds (Value.int .i64) w blk off zs.toArray → blk < w.heap.size → zs.length < 4611686018427387904 →
      Calls P f #[.slice (some ⟨blk, off, none⟩) zs.length cap] w fun e w' => e = .returned (.tuple #[]) ∧ ∃ n os, w' = Sort.grow (Sort.putRow (Value.int .i64) (Sort.ahead w n) blk off (zs.mergeSort fun x y => decide (x ≤ y)).toArray) os)
    {H : AHeap} {b : Nat} {ty : TypeId} {l : List Int} {cl : Bool} {Q : AV → AHeap → Prop} (hb : H b = some ⟨1, ty, l.map rI⟩) (hl : l.length < 4611686018427387904) (k : Q (.tup []) (H.set b ⟨1, ty, (sortI l).map rI⟩)) :
    ACalls P f [.sl b 1 0 l.length cl] H Q := by
  refine ⟨hB, fun w vs hh hv => ?_⟩
  obtain ⟨v, hv1, hv2⟩ := hv.get (i := 0) rfl
  have hvs : vs = #[v] := by
    have h1 : vs.size = 1 := by have := hv.1; simpa using this
    apply Array.ext_getElem?
    intro i
    rcases i with _ | i
    · simpa using hv1
    · rw [Array.getElem?_eq_none (by omega), Array.getElem?_eq_none (by simp)]
  subst hvs
  cases hv2 with
  | sl _ _ _ _ cap _ c0 t0 fr0 e1 e2 e3 e4 e5 =>
  obtain ⟨c, g1, g2, g3⟩ := hh.rows hb (by exact Nat.one_ne_zero)
  simp only [List.length_map, Nat.mul_one] at g2 g3
  have hcell : ∀ (j : Nat) (x : Int), l[j]? = some x → c[j]? = some (.int .i64 x) := by
    intro j x hj
    have hjl := lt_of_get hj
    obtain ⟨u, u1, u2, u3⟩ := g3.at_ j 0 (rI x) (I x) (by simp [hj]) rfl
    have := asInt u3
    subst this
    rw [List.getElem?_take] at u1
    split at u1
    · simpa using u1
    · cases u1
  have hH : Sort.Holds (Value.int .i64) w b (0 * 1) l.toArray := by
    intro j hj
    have hj' : j < l.length := by simpa using hj
    have hx := hcell j l[j] (by simp [hj'])
    refine ⟨?_, ?_⟩
    · simp only [World.cell?, Nat.zero_mul, Nat.zero_add, g1]
      have e : l.toArray[j]! = l[j] := by rw [getElem!_pos _ j (by simpa using hj')]; simp
      rw [e]; exact hx
    · simp only [World.frozen?, g1]
      simp
  have hlt := (Array.getElem?_eq_some_iff.1 g1).1
  refine (hc b (0 * 1) cap l w hH hlt hl).mono ?_
  rintro e w' ⟨rfl, n, os, rfl⟩
  have hga : (Sort.ahead w n).heap[b]? = some (.cells c ty (0, 0)) := g1
  have hput : Sort.putRow (Value.int .i64) (Sort.ahead w n) b (0 * 1) (sortI l).toArray = (Sort.ahead w n).setRow b (Sort.putCells (Value.int .i64) (0 * 1) (sortI l).toArray c) := mapBlock_setRow _ hga
  have hdom : H.dom b := by simp [AHeap.dom, hb]
  have hha : HRel H (Sort.ahead w n) := hh.keep (ev_ahead _ _ _) (fun _ _ => rfl)
  have hcs : (Sort.putCells (Value.int .i64) (0 * 1) (sortI l).toArray c).size = c.size := by simp [Sort.putCells]
  have hpc : ∀ (j : Nat) (x : Int), (sortI l)[j]? = some x → (Sort.putCells (Value.int .i64) (0 * 1) (sortI l).toArray c)[j]? = some (.int .i64 x) := by
    intro j x hj
    have hjl := lt_of_get hj
    have hjc : j < c.size := by rw [sortI_len] at hjl; omega
    have e : (sortI l).toArray[j]! = x := by
      rw [getElem!_pos _ j (by simpa using hjl)]
      have := List.getElem?_eq_some_iff.1 hj
      obtain ⟨h1, h2⟩ := this
      simpa using h2
    simp only [Sort.putCells, Array.getElem?_mapIdx, Nat.zero_mul, Nat.zero_le, Nat.zero_add, true_and, Nat.sub_zero]
    rw [Array.getElem?_eq_getElem hjc]
    simp only [Option.map_some, List.size_toArray, hjl, if_true, e]
  have hh1 : HRel (H.set b ⟨1, ty, (sortI l).map rI⟩) ((Sort.ahead w n).setRow b (Sort.putCells (Value.int .i64) (0 * 1) (sortI l).toArray c)) := by
    refine hrel_setRow hha (by exact Nat.one_ne_zero) hb (k' := ⟨1, ty, (sortI l).map rI⟩) hga hcs rfl (by simp [sortI_len, hcs]; exact g2) ?_
    refine ⟨?_, fun p r hr => ?_, fun p q r x hr hx => ?_⟩
    · simp [sortI_len, hcs]; omega
    · simp only [List.getElem?_map, Option.map_eq_some_iff] at hr
      obtain ⟨y, _, rfl⟩ := hr
      rfl
    · simp only [List.getElem?_map, Option.map_eq_some_iff] at hr
      obtain ⟨y, hy, rfl⟩ := hr
      have hq : q = 0 := by have := lt_of_get hx; simp [rI] at this; exact this
      subst hq
      simp [rI] at hx
      subst hx
      have hpl := lt_of_get hy
      refine ⟨.int .i64 y, ?_, rfl, .lit _⟩
      rw [List.getElem?_take, if_pos (by simp; omega)]
      simpa using hpc p y hy
  have hev : Ev H.dom w (Sort.grow ((Sort.ahead w n).setRow b (Sort.putCells (Value.int .i64) (0 * 1) (sortI l).toArray c)) os) :=
    ((ev_ahead H.dom w n).trans (.refl _ _) (ev_setRow hdom hga hcs)).trans (.refl _ _) (ev_grow H.dom _ os)
  have hp2 : Sort.putRow (Value.int .i64) (Sort.ahead w n) b (0 * 1) (l.mergeSort fun x y => decide (x ≤ y)).toArray = (Sort.ahead w n).setRow b (Sort.putCells (Value.int .i64) (0 * 1) (sortI l).toArray c) := hput
  rw [hp2]
  refine ⟨_, _, _, rfl, k, .tup [] #[] rfl (fun i c v h => by simp at h), hh1.ec (ec_grow _ _), hev, fun x hx => ?_⟩
  rcases AHeap.dom_set hx with e | e
  · subst e; exact .inl hdom
  · exact .inl e
end Go.Sim
