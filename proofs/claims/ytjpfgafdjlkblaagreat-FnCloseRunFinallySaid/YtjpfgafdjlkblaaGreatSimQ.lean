/- The calculus: drawn regions, rows by which simp walks them. No condition. -/
import Derived.Test.YtjpfgafdjlkblaaGreatSimP
namespace Go.Sim
open Go

def aopsX (P : Program) (qv : Nat → AV) (Hp : AHeap) (ops : List Oper) : List Oper → List Nat → Tm → AHeap → (Tm → AHeap → Prop) → Prop
  | [], _, tm, H, K => K tm H
  | o :: rest, tags, tm, H, K => match gA ops tm o.guard with
    | some g => (g = true → stepD P Hp (tags.headD 0) (qvd qv o.dst) o.op tm H fun r H' => aopsX P qv Hp ops rest tags.tail (updO tm o.dst r) H' K) ∧ (g = false → aopsX P qv Hp ops rest tags.tail (updO tm o.dst (.lit undef)) H K)
    | none => False

theorem stepD_mono {P : Program} {Hp H : AHeap} {t : Nat} {v : AV} {o : Op} {tm : Tm} {k k' : AV → AHeap → Prop} (h : stepD P Hp t v o tm H k) (hk : ∀ r H', k r H' → k' r H') (hm : ∀ {k k' : AV → AHeap → Prop}, aop P tm H o k → (∀ r H', k r H' → k' r H') → aop P tm H o k') : stepD P Hp t v o tm H k' := by
  unfold stepD at *
  split at h
  · unfold keepA at *; split at h <;> first | exact hk _ _ h | exact h
  · unfold keepA at *; split at h <;> first | exact hk _ _ h | exact h
  · exact hm h hk
  · exact hm h fun r H' ⟨h1, h2⟩ => ⟨h1, hk _ _ h2⟩
  · exact ⟨h.1, hk _ _ h.2⟩

theorem aopsD_of_X {P : Program} {qv : Nat → AV} {Hp : AHeap} {ops : List Oper} {tags : List Nat} {K : Tm → AHeap → Prop} : ∀ (l : List Oper) (i : Nat) (tm : Tm) (H : AHeap),
    aopsX P qv Hp ops l (tags.drop i) tm H K → aopsD P ops tags qv Hp (l.zipIdx i) tm H K
  | [], i, tm, H, h => h
  | o :: rest, i, tm, H, h => by
    rw [List.zipIdx_cons]
    unfold aopsX at h
    unfold aopsD
    split at h
    · rename_i g hg
      have e1 : (tags.drop i).headD 0 = tags.getD i 0 := by
        rw [List.headD_eq_head?_getD, List.head?_drop, List.getD_eq_getElem?_getD]
      have e2 : (tags.drop i).tail = tags.drop (i + 1) := by rw [List.tail_drop]
      rw [e1, e2] at h
      rw [hg]
      exact ⟨fun q => stepD_mono (h.1 q) (fun r H' hr => aopsD_of_X rest (i + 1) _ _ hr) (fun a b => aop_mono b a), fun q => aopsD_of_X rest (i + 1) _ _ (h.2 q)⟩
    · exact h.elim

section
variable {P : Program} {qv : Nat → AV} {v : AV} {Hp : AHeap} {ops rest : List Oper} {tm : Tm} {H : AHeap} {F : Tm → AHeap → Prop} {k : AV → AHeap → Prop} {d : Option Nat} {op : Op} {ty : TypeId} {pos : String} {aft : Array Edge} {x y z : Operand} {t t' : TypeId} {j a : Nat} {ts : List Nat} {o : Option AV} {tg : Tag (H, k)}

theorem draw_intro {g : Tag (ops, tm, H, F)} (tags : List Nat) (Hp : AHeap) (h1 : tagsOf ops = some tags) (h2 : AHeap.le Hp H) (h3 : aopsX P (fun _ => .top) Hp ops ops tags tm H F) : ADrawT P ops tm H F g :=
  .inl ⟨[], fun _ => .top, tags, Hp, h1, h2, aopsD_of_X ops 0 tm H (by simpa using h3)⟩
theorem draw_introQ {g : Tag (ops, tm, H, F)} (qs tags : List Nat) (qv : Nat → AV) (Hp : AHeap) (h1 : tagsOfQ qs ops = some tags) (h2 : AHeap.le Hp H) (h3 : aopsX P qv Hp ops ops tags tm H F) : ADrawT P ops tm H F g :=
  .inl ⟨qs, qv, tags, Hp, h1, h2, aopsD_of_X ops 0 tm H (by simpa using h3)⟩
theorem none_le : AHeap.le AHeap.none H := fun b k h => by cases h
theorem none_le_iff : AHeap.le AHeap.none H = True := by simp [none_le]
theorem x_nil : aopsX P qv Hp ops [] ts tm H F = F tm H := by cases ts <;> rfl
theorem x_go1 : aopsX P qv Hp ops ({ dst := d, op := op, type := ty, pos := pos, after := aft, guard := none } :: rest) (a :: ts) tm H F = stepD P Hp a (qvd qv d) op tm H (fun r H' => aopsX P qv Hp ops rest ts (updO tm d r) H' F) := by
  apply propext; conv => lhs; unfold aopsX
  simp [gA]
theorem x_go2 {want : Bool} : aopsX P qv Hp ops ({ dst := d, op := op, type := ty, pos := pos, after := aft, guard := some (j, want) } :: rest) (a :: ts) tm H F =
    gIf (gV ops tm j) want (stepD P Hp a (qvd qv d) op tm H (fun r H' => aopsX P qv Hp ops rest ts (updO tm d r) H' F)) (aopsX P qv Hp ops rest ts (updO tm d U) H F) .mk := by
  conv => lhs; unfold aopsX
  simp only [gA_eq]
  cases h : gV ops tm j with
  | lit v => cases v <;> simp [gIf]
  | _ => simp [gIf]
theorem x_g0 {want : Bool} : aopsX P qv Hp ops ({ dst := d, op := op, type := ty, pos := pos, after := aft, guard := some (j, want) } :: rest) (0 :: ts) tm H F =
    mrgV (gV ops tm j) want (pureA P H tm op) (fun r => aopsX P qv Hp ops rest ts (updO tm d r) H F) .mk := by
  rw [x_go2]
  cases h : gV ops tm j with
  | lit v =>
    cases v <;> simp only [gIf, mrgV]
    rename_i b
    cases hb : (b == want) <;> cases ho : pureA P H tm op <;> simp [mrgB, stepD, keepA, wh, ho]
  | _ => rfl
theorem x_g1 {want : Bool} : aopsX P qv Hp ops ({ dst := d, op := op, type := ty, pos := pos, after := aft, guard := some (j, want) } :: rest) (1 :: ts) tm H F =
    mrgV (gV ops tm j) want (pureA P Hp tm op) (fun r => aopsX P qv Hp ops rest ts (updO tm d r) H F) .mk := by
  rw [x_go2]
  cases h : gV ops tm j with
  | lit v =>
    cases v <;> simp only [gIf, mrgV]
    rename_i b
    cases hb : (b == want) <;> cases ho : pureA P Hp tm op <;> simp [mrgB, stepD, keepA, wh, ho]
  | _ => rfl
theorem x_g2 {want : Bool} : aopsX P qv Hp ops ({ dst := d, op := op, type := ty, pos := pos, after := aft, guard := some (j, want) } :: rest) (2 :: ts) tm H F =
    gIf (gV ops tm j) want (aop P tm H op (fun r H' => aopsX P qv Hp ops rest ts (updO tm d r) H' F)) (aopsX P qv Hp ops rest ts (updO tm d U) H F) .mk := x_go2
theorem x_g3 {want : Bool} : aopsX P qv Hp ops ({ dst := d, op := op, type := ty, pos := pos, after := aft, guard := some (j, want) } :: rest) (3 :: ts) tm H F =
    gIf (gV ops tm j) want (aop P tm H op (fun r H' => AHeap.le Hp H' ∧ aopsX P qv Hp ops rest ts (updO tm d r) H' F)) (aopsX P qv Hp ops rest ts (updO tm d U) H F) .mk := x_go2
theorem x_s0 : stepD P Hp 0 v op tm H k = keepT (pureA P H tm op) H k .mk := rfl
theorem x_s1 : stepD P Hp 1 v op tm H k = keepT (pureA P Hp tm op) H k .mk := rfl
theorem x_s2 : stepD P Hp 2 v op tm H k = aop P tm H op k := rfl
theorem x_s3 : stepD P Hp 3 v op tm H k = aop P tm H op (fun r H' => AHeap.le Hp H' ∧ k r H') := rfl
def quietT (P : Program) (Hp : AHeap) (f : AV) (args : List AV) (v : AV) (H : AHeap) (k : AV → AHeap → Prop) (_ : Tag (H, k)) : Prop := quietC P Hp f args v ∧ k v H
theorem x_s4 {f : Operand} {args : List Operand} {tss : Array TypeId} : stepD P Hp 4 v (.call ⟨.value f, args.toArray, tss⟩) tm H k = quietT P Hp (ev tm f) (args.map (ev tm)) v H k .mk := by
  show (quietO P Hp tm _ v ∧ k v H) = _
  simp only [quietO, quietT]
theorem quietT_fn {g : FuncId} {first caps args : List AV} {tg : Tag (H, k)} : quietT P Hp (.fn g first caps) args v H k tg = ((∀ H', AHeap.le Hp H' → ACalls P g (first ++ args ++ caps) H' fun r' H'' => r' = v ∧ H'' = H') ∧ k v H) := rfl
theorem qvd_some {s : Nat} : qvd qv (some s) = qv s := rfl
theorem x_g4 {want : Bool} : aopsX P qv Hp ops ({ dst := d, op := op, type := ty, pos := pos, after := aft, guard := some (j, want) } :: rest) (4 :: ts) tm H F =
    gIf (gV ops tm j) want (stepD P Hp 4 (qvd qv d) op tm H (fun r H' => aopsX P qv Hp ops rest ts (updO tm d r) H' F)) (aopsX P qv Hp ops rest ts (updO tm d U) H F) .mk := x_go2
theorem u_move : pureA P H tm (.move x) = some (ev tm x) := rfl
theorem u_assign : pureA P H tm (.assign x) = some (ev tm x) := rfl
theorem u_pick : pureA P H tm (.pick z x y) = pickA (ev tm z) (ev tm x) (ev tm y) := pure_pick
theorem u_build {parts : Array (Nat × Operand)} : pureA P H tm (.build t parts) = bldA P t (parts.toList.map fun p => (p.1, ev tm p.2)) := rfl
theorem u_buildSlice {m : Nat} {parts : Array (Nat × Operand)} : pureA P H tm (.buildSlice t m parts) = bldSliceA P t m (parts.toList.map fun p => (p.1, ev tm p.2)) := rfl
theorem u_load : pureA P H tm (.load t x) = ldA P H t (ev tm x) := rfl
theorem u_binOp {b : BinOp} : pureA P H tm (.binOp b t x y t') = binA P b t (isConstOp y) (ev tm x) (ev tm y) := rfl
theorem u_unOp {b : UnOp} : pureA P H tm (.unOp b t x) = unA b (ev tm x) := rfl
theorem u_convert : pureA P H tm (.convert t t' x) = convA P t t' (ev tm x) := rfl
theorem u_fieldAddr {f : Nat} : pureA P H tm (.fieldAddr t x f) = fieldAddrA P t (ev tm x) f := rfl
theorem u_field {f : Nat} : pureA P H tm (.field t x f) = fieldA P t (ev tm x) f := rfl
theorem u_indexAddr : pureA P H tm (.indexAddr t x y) = indexAddrA P t (ev tm x) (ev tm y) := rfl
theorem u_index : pureA P H tm (.index t x y) = indexA P t (ev tm x) (ev tm y) := rfl
theorem u_lookup {ok : Bool} : pureA P H tm (.lookup t x y ok) = lookA P H t (ev tm x) (ev tm y) ok := rfl
theorem u_extract {i : Nat} : pureA P H tm (.extract x i) = extractA (ev tm x) i := rfl
theorem u_slice {lo hi mx : Option Operand} : pureA P H tm (.slice t x lo hi mx) = sliceA P t (ev tm x) (lo.map (ev tm)) (hi.map (ev tm)) (mx.map (ev tm)) := rfl
theorem u_nilCheck : pureA P H tm (.nilCheck x) = if okA (ev tm x) then some (ev tm x) else none := rfl
theorem u_makeFunc {g : FuncId} {fs cs : Array Operand} : pureA P H tm (.makeFunc (.func g) fs cs) = some (.fn g (fs.toList.map (ev tm)) (cs.toList.map (ev tm))) := rfl
theorem u_len : pureA P H tm (.call ⟨.builtin .len, #[x], #[t]⟩) = lenA P t (ev tm x) := rfl
end
end Go.Sim
