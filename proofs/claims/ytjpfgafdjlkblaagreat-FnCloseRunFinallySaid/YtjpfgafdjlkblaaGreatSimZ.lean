/- The calculus: room for a slice, out of the library's contract. No condition. -/
import Derived.Test.YtjpfgafdjlkblaaGreatSimY
namespace Go.Sim
open Go
theorem acalls_growN {P : Program} {f : FuncId} (hB : hasBody P f = true) {e : TypeId} {sz bytes : Nat} (hz0 : sz ≠ 0)
    (hc : ∀ (base : Option Addr) (n : Nat) (w : World), 0 < n → n * bytes ≤ 140737488355328 → n ≤ 4611686018427387904 →
      Calls P f #[.slice base 0 0, .int .i64 n] w fun r w' => r = .returned (.slice (some ⟨w.heap.size, 0, none⟩) 0 (grownCap w n 0 e)) ∧ ∃ cs : Array Value, w' = w.drew.alloc (.cells cs e) ∧ grownCap w n 0 e * sz ≤ cs.size)
    {α : Type} {g : α → List AV} {H : AHeap} {n : Nat} (hn : 0 < n) (hb : n * bytes ≤ 140737488355328) (h63 : n ≤ 4611686018427387904) :
    ACalls P f [.vsl [] true, I n] H fun r H' => Grow g sz e H H' r [] := by
  refine ⟨hB, fun w vs hh hv => ?_⟩
  obtain ⟨v, hv1, hv2⟩ := hv.get (i := 0) rfl
  obtain ⟨u, hu1, hu2⟩ := hv.get (i := 1) rfl
  have hu := asInt hu2
  subst hu
  have hvs : vs = #[v, .int .i64 n] := by
    have h1 : vs.size = 2 := by have := hv.1; simpa using this
    apply Array.ext_getElem?
    intro i
    rcases i with _ | _ | i
    · simpa using hv1
    · simpa using hu1
    · rw [Array.getElem?_eq_none (by omega), Array.getElem?_eq_none (by simp)]
  subst hvs
  have hbase : ∃ base, v = .slice base 0 0 := by
    cases hv2 with
    | vnil => exact ⟨_, rfl⟩
    | vsl es cl b o sz' cap g' h1 h2 h3 h4 h5 h6 h7 h8 h9 =>
      have : cap = 0 := by simpa using h3 rfl
      subst this
      exact ⟨_, rfl⟩
  obtain ⟨base, rfl⟩ := hbase
  refine (hc base n w hn hb h63).mono ?_
  rintro r w' ⟨rfl, cs, rfl, hcs⟩
  have hd : HRel H w.drew := hh.keep (ev_drew _ _) (fun _ _ => rfl)
  have hnr := new_rows (w := w.drew) hd hz0 (es := []) (c := cs) (sz := sz) e (by simp) (by simpa using RowsRel.nil _ _ _) (n := 0) (cap := grownCap w n 0 e) (Nat.zero_le _) (grownCap_le_maxLen w _ _ e (by unfold maxLen; omega)) hcs false (by simp)
  obtain ⟨k1, k2, k3, k4⟩ := hnr
  exact ⟨_, _, _, rfl, .inr ⟨w.heap.size, false, hh.fresh, rfl, rfl⟩, k2, k1, (ev_drew H.dom w).trans (.refl _ _) k3, k4⟩
theorem acalls_grow0 {P : Program} {f : FuncId} (hB : hasBody P f = true)
    (hc : ∀ (base : Option Addr) (w : World), Calls P f #[.slice base 0 0, .int .i64 0] w fun r w' => r = .returned (.slice base 0 0) ∧ w' = w) {H : AHeap} :
    ACalls P f [.vsl [] true, I 0] H fun r H' => r = .vsl [] true ∧ H' = H := by
  refine ⟨hB, fun w vs hh hv => ?_⟩
  obtain ⟨v, hv1, hv2⟩ := hv.get (i := 0) rfl
  obtain ⟨u, hu1, hu2⟩ := hv.get (i := 1) rfl
  have hu := asInt hu2
  subst hu
  have hvs : vs = #[v, .int .i64 0] := by
    have h1 : vs.size = 2 := by have := hv.1; simpa using this
    apply Array.ext_getElem?
    intro i
    rcases i with _ | _ | i
    · simpa using hv1
    · simpa using hu1
    · rw [Array.getElem?_eq_none (by omega), Array.getElem?_eq_none (by simp)]
  subst hvs
  have hbase : ∃ base, v = .slice base 0 0 := by
    cases hv2 with
    | vnil => exact ⟨_, rfl⟩
    | vsl es cl b o sz' cap g' h1 h2 h3 h4 h5 h6 h7 h8 h9 =>
      have : cap = 0 := by simpa using h3 rfl
      subst this
      exact ⟨_, rfl⟩
  obtain ⟨base, rfl⟩ := hbase
  refine (hc base w).mono ?_
  rintro r w' ⟨rfl, rfl⟩
  exact ⟨_, _, _, rfl, ⟨rfl, rfl⟩, hv2, hh, .refl _ _, fun b hb => .inl hb⟩
end Go.Sim
