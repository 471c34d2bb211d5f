/- The calculus: rows by which simp walks code. No condition. -/
import Derived.Test.YtjpfgafdjlkblaaGreatSimM
namespace Go.Sim
open Go

abbrev U : AV := .lit undef
def wh (g : Bool) (r : AV) : AV := bif g then r else U
def selA (b : Bool) (x y : AV) : AV := if b then x else y

def gD : List Oper → Nat → Option Nat
  | [], _ => none
  | o :: _, 0 => o.dst
  | _ :: l, j + 1 => gD l j
theorem gD_eq : ∀ (l : List Oper) (j : Nat), gD l j = (l[j]?).bind (·.dst)
  | [], _ => rfl
  | _ :: _, 0 => rfl
  | _ :: l, j + 1 => by simp [gD, gD_eq l j]
def gT (tm : Tm) : Option Nat → AV
  | some d => tm d
  | none => .top
def gV (ops : List Oper) (tm : Tm) (j : Nat) : AV := gT tm (gD ops j)

inductive Tag {α : Type} (x : α) : Type where
  | mk
def gIf (x : AV) (want : Bool) (X Y : Prop) (_ : Tag (X, Y)) : Prop :=
  match x with
  | .lit (.bool b) => ((b == want) = true → X) ∧ ((b == want) = false → Y)
  | .lit _ => Y
  | _ => False
def mrgB (g : Bool) (o : Option AV) (F : AV → Prop) (_ : Tag F) : Prop :=
  match o with
  | some r => F (wh g r)
  | none => g = false ∧ F U
def mrgV (x : AV) (want : Bool) (o : Option AV) (F : AV → Prop) (_ : Tag (o, F)) : Prop :=
  match x with
  | .lit (.bool b) => mrgB (b == want) o F .mk
  | .lit _ => F U
  | _ => False
def cnd (x : AV) (X Y : Prop) (_ : Tag (X, Y)) : Prop :=
  match x with
  | .lit (.bool b) => (b = true → X) ∧ (b = false → Y)
  | _ => False
theorem ACalls.det {P : Program} {f : FuncId} {args : List AV} {H H1 : AHeap} {R : AV} {Q : AV → AHeap → Prop} (h : ACalls P f args H fun r H' => r = R ∧ H' = H1) (k : Q R H1) : ACalls P f args H Q := h.mono fun r H' ⟨e1, e2⟩ => by subst e1; subst e2; exact k
theorem ACalls.detV {P : Program} {f : FuncId} {args : List AV} {H H1 : AHeap} {es : List (List AV)} {Q : AV → AHeap → Prop} (h : ACalls P f args H fun r H' => (∃ cl, r = .vsl es cl) ∧ H' = H1) (k : ∀ cl, Q (.vsl es cl) H1) : ACalls P f args H Q := h.mono fun r H' ⟨⟨cl, e1⟩, e2⟩ => by subst e1; subst e2; exact k cl
def keepT (o : Option AV) (H : AHeap) (K : AV → AHeap → Prop) (_ : Tag (H, K)) : Prop := keepA o H K
def ACallT (P : Program) (f : FuncId) (args : List AV) (H : AHeap) (K : AV → AHeap → Prop) (_ : Tag K) : Prop := ACalls P f args H K
def callA (P : Program) (f : AV) (args : List AV) (H : AHeap) (K : AV → AHeap → Prop) (_ : Tag K) : Prop :=
  match f with
  | .fn g first caps => ACalls P g (first ++ args ++ caps) H K
  | _ => False
def appT (P : Program) (H : AHeap) (t : TypeId) (x y : AV) (K : AV → AHeap → Prop) (_ : Tag (H, K)) : Prop := appendA P H t x y K
def SimT (P : Program) (n : Nat) (c : Code) (tm : Tm) (H : AHeap) (K : APost) (_ : Tag (c, tm, H, K)) : Prop := Sim P n c tm H K
def ADrawT (P : Program) (ops : List Oper) (tm : Tm) (H : AHeap) (F : Tm → AHeap → Prop) (_ : Tag (ops, tm, H, F)) : Prop := ADraw P ops tm H F

section
variable {P : Program} {n : Nat} {fz : Nat → List Nat} {im : Nat → Bool} {tm : Tm} {H : AHeap} {K : APost} {F : Tm → AHeap → Prop} {k : AV → AHeap → Prop} {ops rest : List Oper} {d : Option Nat} {op : Op} {ty : TypeId} {pos : String} {aft : Array Edge} {x y z : Operand} {t t' : TypeId} {j : Nat}

/-! what is not looked into -/
theorem mrgB_congr {g g' : Bool} {o o' : Option AV} {F : AV → Prop} {t : Tag F} (h : g = g') (h2 : g' = true → o = o') : mrgB g o F t = mrgB g' o' F t := by
  subst h
  cases g with
  | true => rw [h2 rfl]
  | false => cases o <;> cases o' <;> simp [mrgB, wh]
attribute [congr] mrgB_congr

/-! code -/
theorem aw_skip : awp P n fz im .skip tm H K = K .normal tm H := rfl
theorem aw_ret : awp P n fz im .ret tm H K = K .ret tm H := rfl
theorem aw_exit {id : Nat} : awp P n fz im (.exit id) tm H K = K (.exit id) tm H := rfl
theorem aw_region {id : Nat} {l : List Oper} : awp P n fz im (.region id l.toArray false) tm H K = aops P im l l tm H fun tm' H' => frz (fz id) tm' H' (K .normal) := rfl
theorem aw_draw {id : Nat} {l : List Oper} : awp P n fz im (.region id l.toArray true) tm H K = ADrawT P l tm H (fun tm' H' => frz (fz id) tm' H' (K .normal)) .mk := rfl
theorem aw_seq {c1 c2 : Code} : awp P n fz im (.seq c1 c2) tm H K = awp P n fz im c1 tm H (sq (fun tm' H' => awp P n fz im c2 tm' H' K) K) := rfl
theorem aw_block {id : Nat} {c : Code} : awp P n fz im (.block id c) tm H K = awp P n fz im c tm H (exB id K) := rfl
theorem aw_loop {c : Code} : awp P n fz im (.loop c) tm H K = SimT P n (.loop c) tm H K .mk := rfl
theorem aw_cond {c1 c2 : Code} : awp P n fz im (.cond x c1 c2) tm H K = cnd (ev tm x) (awp P n fz im c1 tm H K) (awp P n fz im c2 tm H K) .mk := by
  simp only [awp, cnd]; rfl
theorem cnd_b {b : Bool} {X Y : Prop} {g : Tag (X, Y)} : cnd (B b) X Y g = ((b = true → X) ∧ (b = false → Y)) := rfl
theorem cnd_t {X Y : Prop} {g : Tag (X, Y)} : cnd (B true) X Y g = X := by simp [cnd]
theorem cnd_f {X Y : Prop} {g : Tag (X, Y)} : cnd (B false) X Y g = Y := by simp [cnd]
theorem frz_nil {K : Tm → AHeap → Prop} : frz [] tm H K = K tm H := rfl
theorem sq_normal : sq F K .normal tm H = F tm H := rfl
theorem sq_ret : sq F K .ret tm H = K .ret tm H := rfl
theorem sq_exit {id : Nat} : sq F K (.exit id) tm H = K (.exit id) tm H := rfl
theorem exB_normal {id : Nat} : exB id K .normal tm H = K .normal tm H := rfl
theorem exB_ret {id : Nat} : exB id K .ret tm H = K .ret tm H := rfl
theorem exB_same {id : Nat} : exB id K (.exit id) tm H = K .normal tm H := by simp [exB]
theorem exB_other {id i : Nat} (h : i ≠ id) : exB id K (.exit i) tm H = K (.exit i) tm H := by simp [exB, h]
theorem retQ_ret {rs : List ResultVar} {Q : AV → AHeap → Prop} : retQ P rs Q .ret tm H = retR P rs Q tm H := rfl
theorem retQ_normal {rs : List ResultVar} {Q : AV → AHeap → Prop} : retQ P rs Q .normal tm H = retR P rs Q tm H := rfl

def frzK (o : Option ABlk) (sz : Nat) (G : ABlk → Prop) (_ : Tag G) : Prop :=
  match o with
  | some k => k.sz = sz ∧ G k
  | none => False
def frzV (x : AV) (t : Nat) (l : List Nat) (tm : Tm) (H : AHeap) (F : Tm → AHeap → Prop) (_ : Tag (tm, H, F)) : Prop :=
  match x with
  | .ptr b sz i j => frzK (H b) sz (fun k => frz l (upd tm t (.vptr k.es i j)) (H.del b) F) .mk
  | .sl b sz off len cl => frzK (H b) sz (fun k => off + len ≤ k.es.length ∧ frz l (upd tm t (.vsl ((k.es.drop off).take len) cl)) (H.del b) F) .mk
  | _ => False
theorem frz_cons {t : Nat} {l : List Nat} : frz (t :: l) tm H F = frzV (tm t) t l tm H F .mk := by
  simp only [frz, frzV, frzK]
  cases tm t <;> rfl
theorem frzV_ptr {b sz i j t : Nat} {l : List Nat} {g : Tag (tm, H, F)} : frzV (.ptr b sz i j) t l tm H F g = frzK (H b) sz (fun k => frz l (upd tm t (.vptr k.es i j)) (H.del b) F) .mk := rfl
theorem frzV_sl {b sz off len t : Nat} {cl : Bool} {l : List Nat} {g : Tag (tm, H, F)} : frzV (.sl b sz off len cl) t l tm H F g = frzK (H b) sz (fun k => off + len ≤ k.es.length ∧ frz l (upd tm t (.vsl ((k.es.drop off).take len) cl)) (H.del b) F) .mk := rfl
theorem frzK_some {sz' sz : Nat} {ty : TypeId} {es : List (List AV)} {G : ABlk → Prop} {g : Tag G} : frzK (some ⟨sz', ty, es⟩) sz G g = (sz' = sz ∧ G ⟨sz', ty, es⟩) := rfl
theorem set_none {b b' : Nat} {k : ABlk} : ((H.set b k) b' = none) = (b' ≠ b ∧ b ≠ b' ∧ H b' = none) := by
  apply propext
  simp only [AHeap.set]
  split
  · rename_i e; simp [e]
  · rename_i e; simp [e, Ne.symm e]
theorem set_other {b b' : Nat} {k : ABlk} (h : b' ≠ b) : (H.set b k) b' = H b' := by simp [AHeap.set, h]

/-! regions -/
def isBox : Op → Bool
  | .box .. | .buildSlice .. => true
  | _ => false
theorem aopI_ne (h : isBox op = false) : aopI P im tm H d op k = aop P tm H op k := by
  unfold aopI
  split
  · cases h
  · cases h
  · rfl
def bxA (im : Bool) (X Y : Prop) (_ : Tag (X, Y)) : Prop := bif im then X else Y
theorem bxA_t {X Y : Prop} {g : Tag (X, Y)} : bxA true X Y g = X := rfl
theorem bxA_f {X Y : Prop} {g : Tag (X, Y)} : bxA false X Y g = Y := rfl
theorem i_box {s : Nat} : aopI P im tm H (some s) (.box t x) k = bxA (im s) (boxI P H t (ev tm x) k) (boxA P H t (ev tm x) k) .mk := by
  unfold aopI bxA
  cases h : im s <;> simp [h] <;> rfl
theorem i_buildSlice {s m : Nat} {parts : Array (Nat × Operand)} : aopI P im tm H (some s) (.buildSlice t m parts) k = bxA (im s) (buildSliceI P H t m (parts.toList.map fun p => (p.1, ev tm p.2)) k) (buildSliceA P H t m (parts.toList.map fun p => (p.1, ev tm p.2)) k) .mk := by
  unfold aopI bxA
  cases h : im s <;> simp [h] <;> rfl
theorem gD_zero {dst : Option Nat} {g : Option (Nat × Bool)} {l : List Oper} : gD ({ dst, op, type := ty, pos, after := aft, guard := g } :: l) 0 = dst := rfl
theorem gD_succ {o : Oper} {l : List Oper} : gD (o :: l) (j + 1) = gD l j := rfl
theorem gT_some {d : Nat} : gT tm (some d) = tm d := rfl
theorem ao_nil : aops P im ops [] tm H F = F tm H := rfl
theorem ao_go {o : Oper} (h : o.guard = none) : aops P im ops (o :: rest) tm H F = aopI P im tm H o.dst o.op (fun r H' => aops P im ops rest (updO tm o.dst r) H' F) := by
  apply propext; conv => lhs; unfold aops
  rw [h]; simp [gA]
theorem go1 : aops P im ops ({ dst := d, op := op, type := ty, pos := pos, after := aft, guard := none } :: rest) tm H F = aopI P im tm H d op (fun r H' => aops P im ops rest (updO tm d r) H' F) := ao_go rfl
theorem gA_eq {want : Bool} : gA ops tm (some (j, want)) = match gV ops tm j with
    | .lit (.bool b) => some (b == want)
    | .lit _ => some false
    | _ => none := by
  unfold gA gV
  rw [gD_eq]
  simp only
  cases (ops[j]?).bind (·.dst) with
  | none => rfl
  | some d => rfl
theorem go2 {want : Bool} : aops P im ops ({ dst := d, op := op, type := ty, pos := pos, after := aft, guard := some (j, want) } :: rest) tm H F =
    gIf (gV ops tm j) want (aopI P im tm H d op (fun r H' => aops P im ops rest (updO tm d r) H' F)) (aops P im ops rest (updO tm d U) H F) .mk := by
  conv => lhs; unfold aops
  simp only [gA_eq]
  cases h : gV ops tm j with
  | lit v => cases v <;> simp [gIf, aops]
  | _ => simp [gIf]
theorem go3 {want : Bool} (hp : ∀ k, aopI P im tm H d op k = keepA (pureA P H tm op) H k) : aops P im ops ({ dst := d, op := op, type := ty, pos := pos, after := aft, guard := some (j, want) } :: rest) tm H F =
    mrgV (gV ops tm j) want (pureA P H tm op) (fun r => aops P im ops rest (updO tm d r) H F) .mk := by
  rw [go2, hp]
  cases h : gV ops tm j with
  | lit v =>
    cases v <;> simp only [gIf, mrgV]
    rename_i b
    cases hb : (b == want) <;> cases ho : pureA P H tm op <;> simp [mrgB, keepA, wh, hb]
  | _ => rfl
theorem gIf_b {b want : Bool} {X Y : Prop} {g : Tag (X, Y)} : gIf (B b) want X Y g = (((b == want) = true → X) ∧ ((b == want) = false → Y)) := rfl
theorem mrgV_b {b want : Bool} {o : Option AV} {F : AV → Prop} {g : Tag (o, F)} : mrgV (B b) want o F g = mrgB (b == want) o F .mk := rfl
theorem mrgV_wh {a b want : Bool} {o : Option AV} {F : AV → Prop} {g : Tag (o, F)} : mrgV (wh a (B b)) want o F g = mrgB (a && (b == want)) o F .mk := by
  cases a with
  | true => rfl
  | false => cases o <;> simp [mrgB, wh] <;> rfl
theorem mrgB_some {g : Bool} {r : AV} {F : AV → Prop} {t : Tag F} : mrgB g (some r) F t = F (wh g r) := rfl
theorem mrgB_if {g : Bool} {c : Prop} [Decidable c] {o : Option AV} {F : AV → Prop} {t : Tag F} : mrgB g (if c then o else none) F t = ((g = true → c) ∧ mrgB g o F t) := by
  by_cases h : c
  · simp [h]
  · cases g <;> cases o <;> simp [h, mrgB, wh]
theorem mrgB_f {o : Option AV} {F : AV → Prop} {t : Tag F} : mrgB false o F t = F U := by cases o <;> simp [mrgB, wh]
theorem mrgV_U {w : Bool} {o : Option AV} {F : AV → Prop} {t : Tag (o, F)} : mrgV U w o F t = F U := rfl
theorem gIf_U {w : Bool} {X Y : Prop} {t : Tag (X, Y)} : gIf U w X Y t = Y := rfl
theorem gIf_wh {a b w : Bool} {X Y : Prop} {t : Tag (X, Y)} : gIf (wh a (B b)) w X Y t = (((a && (b == w)) = true → X) ∧ ((a && (b == w)) = false → Y)) := by cases a <;> simp [wh, gIf_b, gIf_U]
theorem wh_true {r : AV} : wh true r = r := rfl
theorem wh_false {r : AV} : wh false r = U := rfl
theorem keepA_some {r : AV} {g : Tag (H, k)} : keepT (some r) H k g = k r H := rfl
theorem keepA_if {c : Prop} [Decidable c] {o : Option AV} {g : Tag (H, k)} : keepT (if c then o else none) H k g = (c ∧ keepT o H k g) := by
  by_cases h : c <;> simp [h, keepT, keepA]

/-! operations -/
theorem p_move : aop P tm H (.move x) k = k (ev tm x) H := rfl
theorem p_assign : aop P tm H (.assign x) k = k (ev tm x) H := rfl

theorem p_build {parts : Array (Nat × Operand)} : aop P tm H (.build t parts) k = keepT (bldA P t (parts.toList.map fun p => (p.1, ev tm p.2))) H k .mk := rfl
theorem p_load : aop P tm H (.load t x) k = keepT (ldA P H t (ev tm x)) H k .mk := rfl
theorem p_binOp {b : BinOp} : aop P tm H (.binOp b t x y t') k = keepT (binA P b t (isConstOp y) (ev tm x) (ev tm y)) H k .mk := rfl
theorem p_unOp {b : UnOp} : aop P tm H (.unOp b t x) k = keepT (unA b (ev tm x)) H k .mk := rfl
theorem p_convert : aop P tm H (.convert t t' x) k = keepT (convA P t t' (ev tm x)) H k .mk := rfl
theorem p_fieldAddr {f : Nat} : aop P tm H (.fieldAddr t x f) k = keepT (fieldAddrA P t (ev tm x) f) H k .mk := rfl
theorem p_field {f : Nat} : aop P tm H (.field t x f) k = keepT (fieldA P t (ev tm x) f) H k .mk := rfl
theorem p_indexAddr : aop P tm H (.indexAddr t x y) k = keepT (indexAddrA P t (ev tm x) (ev tm y)) H k .mk := rfl
theorem p_index : aop P tm H (.index t x y) k = keepT (indexA P t (ev tm x) (ev tm y)) H k .mk := rfl
theorem p_extract {i : Nat} : aop P tm H (.extract x i) k = keepT (extractA (ev tm x) i) H k .mk := rfl
theorem p_slice {lo hi mx : Option Operand} : aop P tm H (.slice t x lo hi mx) k = keepT (sliceA P t (ev tm x) (lo.map (ev tm)) (hi.map (ev tm)) (mx.map (ev tm))) H k .mk := rfl
theorem p_nilCheck : aop P tm H (.nilCheck x) k = keepT (if okA (ev tm x) then some (ev tm x) else none) H k .mk := rfl
theorem p_makeFunc {g : FuncId} {fs cs : Array Operand} : aop P tm H (.makeFunc (.func g) fs cs) k = k (.fn g (fs.toList.map (ev tm)) (cs.toList.map (ev tm))) H := rfl
theorem p_len : aop P tm H (.call ⟨.builtin .len, #[x], #[t]⟩) k = keepT (lenA P t (ev tm x)) H k .mk := rfl
theorem p_max {ts : Array TypeId} : aop P tm H (.call ⟨.builtin .max, #[x, y], ts⟩) k = keepT (minmaxA true (ev tm x) (ev tm y)) H k .mk := rfl
theorem p_min {ts : Array TypeId} : aop P tm H (.call ⟨.builtin .min, #[x, y], ts⟩) k = keepT (minmaxA false (ev tm x) (ev tm y)) H k .mk := rfl
theorem p_lookup {ok : Bool} : aop P tm H (.lookup t x y ok) k = keepT (lookA P H t (ev tm x) (ev tm y) ok) H k .mk := rfl
theorem p_makeMap : aop P tm H (.makeMap t none) k = makeMapA H t k := rfl
theorem p_mapUpdate {z : Operand} : aop P tm H (.mapUpdate t x y z) k = putA P H t (ev tm x) (ev tm y) (ev tm z) k := rfl
theorem p_alloc : aop P tm H (.alloc t) k = allocA P H t k := rfl
theorem p_box : aop P tm H (.box t x) k = boxA P H t (ev tm x) k := rfl
theorem p_buildSlice {m : Nat} {parts : Array (Nat × Operand)} : aop P tm H (.buildSlice t m parts) k = buildSliceA P H t m (parts.toList.map fun p => (p.1, ev tm p.2)) k := rfl
theorem p_makeSlice : aop P tm H (.makeSlice t x y) k = makeSliceA P H t (ev tm x) (ev tm y) k := rfl
theorem p_store : aop P tm H (.store t x y) k = storeA P H t (ev tm x) (ev tm y) k := rfl
theorem p_append : aop P tm H (.call ⟨.builtin .append, #[x, y], #[t, t]⟩) k = appT P H t (ev tm x) (ev tm y) k .mk := by
  simp [aop, appT]
theorem p_call {f : Operand} {args : List Operand} {ts : Array TypeId} : aop P tm H (.call ⟨.value f, args.toArray, ts⟩) k = callA P (ev tm f) (args.map (ev tm)) H k .mk := by
  simp only [aop, callA]
  cases ev tm f <;> rfl
theorem callA_fn {g : FuncId} {first caps args : List AV} {q : Tag k} : callA P (.fn g first caps) args H k q = ACallT P g (first ++ args ++ caps) H k .mk := rfl

/-! values -/
theorem ev_tmp {s : Nat} : ev tm (.tmp s) = tm s := rfl
theorem ev_const {v : Value} : ev tm (.const v) = ofConst v := rfl
theorem ev_global {g : Nat} : ev tm (.global g) = .lit (.pointer (some ⟨g, 0, Option.none⟩)) := rfl
theorem ev_func {g : Nat} : ev tm (.func g) = .fn g [] [] := rfl
theorem oc_bool {b : Bool} : ofConst (.bool b) = B b := rfl
theorem oc_int {kd : IntKind} {i : Int} : ofConst (.int kd i) = .lit (.int kd i) := rfl
theorem oc_string {s : ByteArray} : ofConst (.string s) = .lit (.string s) := rfl
theorem oc_nil : ofConst (.slice none 0 0) = .vsl [] true := rfl
theorem oc_nilptr : ofConst (.pointer none) = .lit (.pointer none) := rfl
theorem oc_nilfunc : ofConst .nilFunc = .lit .nilFunc := rfl
theorem cl_bool {b : Bool} : ofCell (.bool b) = B b := rfl
theorem cl_int {kd : IntKind} {i : Int} : ofCell (.int kd i) = .lit (.int kd i) := rfl
theorem cl_string {s : ByteArray} : ofCell (.string s) = .lit (.string s) := rfl
theorem cl_nil : ofCell (.slice none 0 0) = .vsl [] true := rfl
theorem updO_some {s : Nat} {r : AV} : updO tm (some s) r = upd tm s r := rfl
theorem updO_none {r : AV} : updO tm none r = tm := rfl
theorem upd_same {s : Nat} {r : AV} : upd tm s r s = r := by simp [upd]
theorem upd_other {s u : Nat} {r : AV} (h : u ≠ s) : upd tm s r u = tm u := by simp [upd, h]
theorem init_at {args : List AV} {s : Nat} : initTm args s = args.getD s U := rfl
def pickA (c x y : AV) : Option AV :=
  match c with
  | .lit (.bool b) => some (selA b x y)
  | _ => none
theorem pure_pick {c : Operand} : pureA P H tm (.pick c x y) = pickA (ev tm c) (ev tm x) (ev tm y) := by
  simp only [pureA, pickA, selA]; rfl
theorem p_pick {c : Operand} : aop P tm H (.pick c x y) k = keepT (pickA (ev tm c) (ev tm x) (ev tm y)) H k .mk := by rw [← pure_pick]; rfl
theorem i_move : aopI P im tm H d (.move x) k = keepT (some (ev tm x)) H k .mk := by rw [aopI_ne rfl]; exact p_move
theorem i_assign : aopI P im tm H d (.assign x) k = keepT (some (ev tm x)) H k .mk := by rw [aopI_ne rfl]; exact p_assign
theorem i_build {parts : Array (Nat × Operand)} : aopI P im tm H d (.build t parts) k = keepT (bldA P t (parts.toList.map fun p => (p.1, ev tm p.2))) H k .mk := by rw [aopI_ne rfl]; exact p_build
theorem i_load : aopI P im tm H d (.load t x) k = keepT (ldA P H t (ev tm x)) H k .mk := by rw [aopI_ne rfl]; exact p_load
theorem i_binOp {b : BinOp} : aopI P im tm H d (.binOp b t x y t') k = keepT (binA P b t (isConstOp y) (ev tm x) (ev tm y)) H k .mk := by rw [aopI_ne rfl]; exact p_binOp
theorem i_unOp {b : UnOp} : aopI P im tm H d (.unOp b t x) k = keepT (unA b (ev tm x)) H k .mk := by rw [aopI_ne rfl]; exact p_unOp
theorem i_convert : aopI P im tm H d (.convert t t' x) k = keepT (convA P t t' (ev tm x)) H k .mk := by rw [aopI_ne rfl]; exact p_convert
theorem i_fieldAddr {f : Nat} : aopI P im tm H d (.fieldAddr t x f) k = keepT (fieldAddrA P t (ev tm x) f) H k .mk := by rw [aopI_ne rfl]; exact p_fieldAddr
theorem i_field {f : Nat} : aopI P im tm H d (.field t x f) k = keepT (fieldA P t (ev tm x) f) H k .mk := by rw [aopI_ne rfl]; exact p_field
theorem i_indexAddr : aopI P im tm H d (.indexAddr t x y) k = keepT (indexAddrA P t (ev tm x) (ev tm y)) H k .mk := by rw [aopI_ne rfl]; exact p_indexAddr
theorem i_index : aopI P im tm H d (.index t x y) k = keepT (indexA P t (ev tm x) (ev tm y)) H k .mk := by rw [aopI_ne rfl]; exact p_index
theorem i_extract {i : Nat} : aopI P im tm H d (.extract x i) k = keepT (extractA (ev tm x) i) H k .mk := by rw [aopI_ne rfl]; exact p_extract
theorem i_slice {lo hi mx : Option Operand} : aopI P im tm H d (.slice t x lo hi mx) k = keepT (sliceA P t (ev tm x) (lo.map (ev tm)) (hi.map (ev tm)) (mx.map (ev tm))) H k .mk := by rw [aopI_ne rfl]; exact p_slice
theorem i_nilCheck : aopI P im tm H d (.nilCheck x) k = keepT (if okA (ev tm x) then some (ev tm x) else none) H k .mk := by rw [aopI_ne rfl]; exact p_nilCheck
theorem i_makeFunc {g : FuncId} {fs cs : Array Operand} : aopI P im tm H d (.makeFunc (.func g) fs cs) k = keepT (some (.fn g (fs.toList.map (ev tm)) (cs.toList.map (ev tm)))) H k .mk := by rw [aopI_ne rfl]; exact p_makeFunc
theorem i_len : aopI P im tm H d (.call ⟨.builtin .len, #[x], #[t]⟩) k = keepT (lenA P t (ev tm x)) H k .mk := by rw [aopI_ne rfl]; exact p_len
theorem i_max {ts : Array TypeId} : aopI P im tm H d (.call ⟨.builtin .max, #[x, y], ts⟩) k = keepT (minmaxA true (ev tm x) (ev tm y)) H k .mk := by rw [aopI_ne rfl]; exact p_max
theorem i_min {ts : Array TypeId} : aopI P im tm H d (.call ⟨.builtin .min, #[x, y], ts⟩) k = keepT (minmaxA false (ev tm x) (ev tm y)) H k .mk := by rw [aopI_ne rfl]; exact p_min
theorem i_lookup {ok : Bool} : aopI P im tm H d (.lookup t x y ok) k = keepT (lookA P H t (ev tm x) (ev tm y) ok) H k .mk := by rw [aopI_ne rfl]; exact p_lookup
theorem i_makeMap : aopI P im tm H d (.makeMap t none) k = makeMapA H t k := by rw [aopI_ne rfl]; exact p_makeMap
theorem i_mapUpdate {z : Operand} : aopI P im tm H d (.mapUpdate t x y z) k = putA P H t (ev tm x) (ev tm y) (ev tm z) k := by rw [aopI_ne rfl]; exact p_mapUpdate
theorem i_alloc : aopI P im tm H d (.alloc t) k = allocA P H t k := by rw [aopI_ne rfl]; exact p_alloc
theorem i_makeSlice : aopI P im tm H d (.makeSlice t x y) k = makeSliceA P H t (ev tm x) (ev tm y) k := by rw [aopI_ne rfl]; exact p_makeSlice
theorem i_store : aopI P im tm H d (.store t x y) k = storeA P H t (ev tm x) (ev tm y) k := by rw [aopI_ne rfl]; exact p_store
theorem i_append : aopI P im tm H d (.call ⟨.builtin .append, #[x, y], #[t, t]⟩) k = appT P H t (ev tm x) (ev tm y) k .mk := by rw [aopI_ne rfl]; exact p_append
theorem i_call {f : Operand} {args : List Operand} {ts : Array TypeId} : aopI P im tm H d (.call ⟨.value f, args.toArray, ts⟩) k = callA P (ev tm f) (args.map (ev tm)) H k .mk := by rw [aopI_ne rfl]; exact p_call
theorem i_pick {c : Operand} : aopI P im tm H d (.pick c x y) k = keepT (pickA (ev tm c) (ev tm x) (ev tm y)) H k .mk := by rw [aopI_ne rfl]; exact p_pick
theorem pickA_b {b : Bool} {x y : AV} : pickA (B b) x y = some (selA b x y) := rfl
theorem pickA_wh {a b : Bool} {x y : AV} : pickA (wh a (B b)) x y = if a = true then some (selA b x y) else none := by cases a <;> rfl
theorem selA_t {x y : AV} : selA true x y = x := rfl
theorem selA_f {x y : AV} : selA false x y = y := rfl
theorem selA_and {b c : Bool} : selA b (wh b (B c)) (B false) = B (b && c) := by cases b <;> rfl
theorem selA_or {b c : Bool} : selA b (B true) (wh (b == false) (B c)) = B (b || c) := by cases b <;> rfl
theorem selA_orn {b c : Bool} : selA b (B true) (wh (!b) (B c)) = B (b || c) := by cases b <;> rfl
theorem selA_orm {b c : Bool} : selA (!b) (B true) (wh b (B c)) = B (!b || c) := by cases b <;> rfl
theorem selA_bb {b c e : Bool} : selA b (B c) (B e) = B (if b then c else e) := by cases b <;> rfl
theorem selA_ii {b : Bool} {kd : IntKind} {c e : Int} : selA b (.lit (.int kd c)) (.lit (.int kd e)) = .lit (.int kd (if b then c else e)) := by cases b <;> rfl
theorem beqt {b : Bool} : (b == true) = b := by cases b <;> rfl

/-! on values -/
theorem b_add {a b : Int} {kd : IntKind} {yc : Bool} : binA P .add t yc (.lit (.int kd a)) (.lit (.int kd b)) = some (.lit (.int kd (kd.wrap (a + b)))) := by simp [binA, intBin]
theorem b_sub {a b : Int} {kd : IntKind} {yc : Bool} : binA P .sub t yc (.lit (.int kd a)) (.lit (.int kd b)) = some (.lit (.int kd (kd.wrap (a - b)))) := by simp [binA, intBin]
theorem b_mul {a b : Int} {kd : IntKind} {yc : Bool} : binA P .mul t yc (.lit (.int kd a)) (.lit (.int kd b)) = some (.lit (.int kd (kd.wrap (a * b)))) := by simp [binA, intBin]
theorem b_and {a b : Int} {kd : IntKind} {yc : Bool} : binA P .and t yc (.lit (.int kd a)) (.lit (.int kd b)) = some (.lit (.int kd (bits .and kd a b))) := by simp [binA, intBin]
theorem b_or {a b : Int} {kd : IntKind} {yc : Bool} : binA P .or t yc (.lit (.int kd a)) (.lit (.int kd b)) = some (.lit (.int kd (bits .or kd a b))) := by simp [binA, intBin]
theorem b_xor {a b : Int} {kd : IntKind} {yc : Bool} : binA P .xor t yc (.lit (.int kd a)) (.lit (.int kd b)) = some (.lit (.int kd (bits .xor kd a b))) := by simp [binA, intBin]
theorem b_eql {a b : Int} {kd : IntKind} {yc : Bool} : binA P .eql t yc (.lit (.int kd a)) (.lit (.int kd b)) = some (B (decide (a = b))) := by simp [binA, intBin]
theorem b_neq {a b : Int} {kd : IntKind} {yc : Bool} : binA P .neq t yc (.lit (.int kd a)) (.lit (.int kd b)) = some (B (!decide (a = b))) := by simp [binA, intBin]
theorem b_lss {a b : Int} {kd : IntKind} {yc : Bool} : binA P .lss t yc (.lit (.int kd a)) (.lit (.int kd b)) = some (B (decide (a < b))) := by simp [binA, intBin]
theorem b_leq {a b : Int} {kd : IntKind} {yc : Bool} : binA P .leq t yc (.lit (.int kd a)) (.lit (.int kd b)) = some (B (decide (a ≤ b))) := by simp [binA, intBin]
theorem b_gtr {a b : Int} {kd : IntKind} {yc : Bool} : binA P .gtr t yc (.lit (.int kd a)) (.lit (.int kd b)) = some (B (decide (b < a))) := by simp [binA, intBin]
theorem b_geq {a b : Int} {kd : IntKind} {yc : Bool} : binA P .geq t yc (.lit (.int kd a)) (.lit (.int kd b)) = some (B (decide (b ≤ a))) := by simp [binA, intBin]
theorem b_quo {a b : Int} {kd : IntKind} {yc : Bool} : binA P .quo t yc (.lit (.int kd a)) (.lit (.int kd b)) = if b ≠ 0 then some (.lit (.int kd (kd.wrap (a.tdiv b)))) else none := by by_cases h : b = 0 <;> simp [binA, intBin, h]
theorem b_rem {a b : Int} {kd : IntKind} {yc : Bool} : binA P .rem t yc (.lit (.int kd a)) (.lit (.int kd b)) = if b ≠ 0 then some (.lit (.int kd (a.tmod b))) else none := by by_cases h : b = 0 <;> simp [binA, intBin, h]
theorem b_shr {a b : Int} {kd kd' : IntKind} {yc : Bool} : binA P .shr t yc (.lit (.int kd a)) (.lit (.int kd' b)) = if 0 ≤ b then some (.lit (.int kd (a.fdiv (2 ^ (min b.toNat kd.bits))))) else none := by
  by_cases h : b < 0
  · have : ¬ 0 ≤ b := by omega
    simp [binA, intShift, h, this]
  · have : 0 ≤ b := by omega
    simp [binA, intShift, h, this]
theorem b_seql {a b : Str} {yc : Bool} : binA P .eql t yc (S a) (S b) = some (B (decide (a = b))) := by simp [binA, strBin]
theorem b_sneq {a b : Str} {yc : Bool} : binA P .neq t yc (S a) (S b) = some (B (!decide (a = b))) := by simp [binA, strBin]
theorem b_sadd {a b : Str} {yc : Bool} : binA P .add t yc (S a) (S b) = if a.length + b.length ≤ 9223372036854775807 then some (S (a ++ b)) else none := by simp only [binA, strBin]; split <;> rfl
theorem b_beql {a b yc : Bool} : binA P .eql t yc (B a) (B b) = if tbool P t = true then some (B (a == b)) else none := by simp [binA, boolBin]
theorem b_bneq {a b yc : Bool} : binA P .neq t yc (B a) (B b) = if tbool P t = true then some (B (!(a == b))) else none := by simp [binA, boolBin]
theorem b_aeql {xs ys : List AV} {yc : Bool} : binA P .eql t yc (.agg xs) (.agg ys) = match teq P t with
    | some ks => (eqA ks xs ys).map fun r => B r
    | none => none := by
  simp only [binA]
  cases teq P t with
  | none => rfl
  | some ks => simp only; cases eqA ks xs ys <;> rfl
theorem b_aneq {xs ys : List AV} {yc : Bool} : binA P .neq t yc (.agg xs) (.agg ys) = match teq P t with
    | some ks => (eqA ks xs ys).map fun r => B !r
    | none => none := by
  simp only [binA]
  cases teq P t with
  | none => rfl
  | some ks => simp only; cases eqA ks xs ys <;> rfl
theorem u_not {b : Bool} : unA .not (B b) = some (B !b) := rfl
theorem u_neg {a : Int} {kd : IntKind} : unA .neg (.lit (.int kd a)) = some (.lit (.int kd (kd.wrap (0 - a)))) := rfl

/-! guarded -/
theorem g_move {want : Bool} : aops P im ops ({ dst := d, op := .move x, type := ty, pos := pos, after := aft, guard := some (j, want) } :: rest) tm H F =
    mrgV (gV ops tm j) want (some (ev tm x)) (fun r => aops P im ops rest (updO tm d r) H F) .mk := go3 fun _ => by rw [aopI_ne rfl]; rfl
theorem g_assign {want : Bool} : aops P im ops ({ dst := d, op := .assign x, type := ty, pos := pos, after := aft, guard := some (j, want) } :: rest) tm H F =
    mrgV (gV ops tm j) want (some (ev tm x)) (fun r => aops P im ops rest (updO tm d r) H F) .mk := go3 fun _ => by rw [aopI_ne rfl]; rfl
theorem g_pick {want : Bool} : aops P im ops ({ dst := d, op := .pick z x y, type := ty, pos := pos, after := aft, guard := some (j, want) } :: rest) tm H F =
    mrgV (gV ops tm j) want (pickA (ev tm z) (ev tm x) (ev tm y)) (fun r => aops P im ops rest (updO tm d r) H F) .mk := by rw [go3 fun _ => by rw [aopI_ne rfl]; rfl, pure_pick]
theorem g_build {want : Bool} {parts : Array (Nat × Operand)} : aops P im ops ({ dst := d, op := .build t parts, type := ty, pos := pos, after := aft, guard := some (j, want) } :: rest) tm H F =
    mrgV (gV ops tm j) want (bldA P t (parts.toList.map fun p => (p.1, ev tm p.2))) (fun r => aops P im ops rest (updO tm d r) H F) .mk := go3 fun _ => by rw [aopI_ne rfl]; rfl
theorem g_load {want : Bool} : aops P im ops ({ dst := d, op := .load t x, type := ty, pos := pos, after := aft, guard := some (j, want) } :: rest) tm H F =
    mrgV (gV ops tm j) want (ldA P H t (ev tm x)) (fun r => aops P im ops rest (updO tm d r) H F) .mk := go3 fun _ => by rw [aopI_ne rfl]; rfl
theorem g_binOp {want : Bool} {b : BinOp} : aops P im ops ({ dst := d, op := .binOp b t x y t', type := ty, pos := pos, after := aft, guard := some (j, want) } :: rest) tm H F =
    mrgV (gV ops tm j) want (binA P b t (isConstOp y) (ev tm x) (ev tm y)) (fun r => aops P im ops rest (updO tm d r) H F) .mk := go3 fun _ => by rw [aopI_ne rfl]; rfl
theorem g_unOp {want : Bool} {b : UnOp} : aops P im ops ({ dst := d, op := .unOp b t x, type := ty, pos := pos, after := aft, guard := some (j, want) } :: rest) tm H F =
    mrgV (gV ops tm j) want (unA b (ev tm x)) (fun r => aops P im ops rest (updO tm d r) H F) .mk := go3 fun _ => by rw [aopI_ne rfl]; rfl
theorem g_convert {want : Bool} : aops P im ops ({ dst := d, op := .convert t t' x, type := ty, pos := pos, after := aft, guard := some (j, want) } :: rest) tm H F =
    mrgV (gV ops tm j) want (convA P t t' (ev tm x)) (fun r => aops P im ops rest (updO tm d r) H F) .mk := go3 fun _ => by rw [aopI_ne rfl]; rfl
theorem g_fieldAddr {want : Bool} {f : Nat} : aops P im ops ({ dst := d, op := .fieldAddr t x f, type := ty, pos := pos, after := aft, guard := some (j, want) } :: rest) tm H F =
    mrgV (gV ops tm j) want (fieldAddrA P t (ev tm x) f) (fun r => aops P im ops rest (updO tm d r) H F) .mk := go3 fun _ => by rw [aopI_ne rfl]; rfl
theorem g_field {want : Bool} {f : Nat} : aops P im ops ({ dst := d, op := .field t x f, type := ty, pos := pos, after := aft, guard := some (j, want) } :: rest) tm H F =
    mrgV (gV ops tm j) want (fieldA P t (ev tm x) f) (fun r => aops P im ops rest (updO tm d r) H F) .mk := go3 fun _ => by rw [aopI_ne rfl]; rfl
theorem g_indexAddr {want : Bool} : aops P im ops ({ dst := d, op := .indexAddr t x y, type := ty, pos := pos, after := aft, guard := some (j, want) } :: rest) tm H F =
    mrgV (gV ops tm j) want (indexAddrA P t (ev tm x) (ev tm y)) (fun r => aops P im ops rest (updO tm d r) H F) .mk := go3 fun _ => by rw [aopI_ne rfl]; rfl
theorem g_index {want : Bool} : aops P im ops ({ dst := d, op := .index t x y, type := ty, pos := pos, after := aft, guard := some (j, want) } :: rest) tm H F =
    mrgV (gV ops tm j) want (indexA P t (ev tm x) (ev tm y)) (fun r => aops P im ops rest (updO tm d r) H F) .mk := go3 fun _ => by rw [aopI_ne rfl]; rfl
theorem g_extract {want : Bool} {i : Nat} : aops P im ops ({ dst := d, op := .extract x i, type := ty, pos := pos, after := aft, guard := some (j, want) } :: rest) tm H F =
    mrgV (gV ops tm j) want (extractA (ev tm x) i) (fun r => aops P im ops rest (updO tm d r) H F) .mk := go3 fun _ => by rw [aopI_ne rfl]; rfl
theorem g_lookup {want : Bool} {ok : Bool} : aops P im ops ({ dst := d, op := .lookup t x y ok, type := ty, pos := pos, after := aft, guard := some (j, want) } :: rest) tm H F =
    mrgV (gV ops tm j) want (lookA P H t (ev tm x) (ev tm y) ok) (fun r => aops P im ops rest (updO tm d r) H F) .mk := go3 fun _ => by rw [aopI_ne rfl]; rfl
theorem g_slice {want : Bool} {lo hi mx : Option Operand} : aops P im ops ({ dst := d, op := .slice t x lo hi mx, type := ty, pos := pos, after := aft, guard := some (j, want) } :: rest) tm H F =
    mrgV (gV ops tm j) want (sliceA P t (ev tm x) (lo.map (ev tm)) (hi.map (ev tm)) (mx.map (ev tm))) (fun r => aops P im ops rest (updO tm d r) H F) .mk := go3 fun _ => by rw [aopI_ne rfl]; rfl
theorem g_nilCheck {want : Bool} : aops P im ops ({ dst := d, op := .nilCheck x, type := ty, pos := pos, after := aft, guard := some (j, want) } :: rest) tm H F =
    mrgV (gV ops tm j) want (if okA (ev tm x) then some (ev tm x) else none) (fun r => aops P im ops rest (updO tm d r) H F) .mk := go3 fun _ => by rw [aopI_ne rfl]; rfl
theorem g_len {want : Bool} : aops P im ops ({ dst := d, op := .call ⟨.builtin .len, #[x], #[t]⟩, type := ty, pos := pos, after := aft, guard := some (j, want) } :: rest) tm H F =
    mrgV (gV ops tm j) want (lenA P t (ev tm x)) (fun r => aops P im ops rest (updO tm d r) H F) .mk := go3 fun _ => by rw [aopI_ne rfl]; rfl
theorem g_makeFunc {want : Bool} {g : FuncId} {fs cs : Array Operand} : aops P im ops ({ dst := d, op := .makeFunc (.func g) fs cs, type := ty, pos := pos, after := aft, guard := some (j, want) } :: rest) tm H F =
    mrgV (gV ops tm j) want (some (.fn g (fs.toList.map (ev tm)) (cs.toList.map (ev tm)))) (fun r => aops P im ops rest (updO tm d r) H F) .mk := go3 fun _ => by rw [aopI_ne rfl]; rfl
theorem h_call {want : Bool} {f : Operand} {args : List Operand} {ts : Array TypeId} : aops P im ops ({ dst := d, op := .call ⟨.value f, args.toArray, ts⟩, type := ty, pos := pos, after := aft, guard := some (j, want) } :: rest) tm H F =
    gIf (gV ops tm j) want (aopI P im tm H d (.call ⟨.value f, args.toArray, ts⟩) (fun r H' => aops P im ops rest (updO tm d r) H' F)) (aops P im ops rest (updO tm d U) H F) .mk := go2
theorem h_append {want : Bool} {args : Array Operand} {ts : Array TypeId} : aops P im ops ({ dst := d, op := .call ⟨.builtin .append, args, ts⟩, type := ty, pos := pos, after := aft, guard := some (j, want) } :: rest) tm H F =
    gIf (gV ops tm j) want (aopI P im tm H d (.call ⟨.builtin .append, args, ts⟩) (fun r H' => aops P im ops rest (updO tm d r) H' F)) (aops P im ops rest (updO tm d U) H F) .mk := go2
theorem h_alloc {want : Bool} : aops P im ops ({ dst := d, op := .alloc t, type := ty, pos := pos, after := aft, guard := some (j, want) } :: rest) tm H F =
    gIf (gV ops tm j) want (aopI P im tm H d (.alloc t) (fun r H' => aops P im ops rest (updO tm d r) H' F)) (aops P im ops rest (updO tm d U) H F) .mk := go2
theorem h_box {want : Bool} : aops P im ops ({ dst := d, op := .box t x, type := ty, pos := pos, after := aft, guard := some (j, want) } :: rest) tm H F =
    gIf (gV ops tm j) want (aopI P im tm H d (.box t x) (fun r H' => aops P im ops rest (updO tm d r) H' F)) (aops P im ops rest (updO tm d U) H F) .mk := go2
theorem h_buildSlice {want : Bool} {m : Nat} {parts : Array (Nat × Operand)} : aops P im ops ({ dst := d, op := .buildSlice t m parts, type := ty, pos := pos, after := aft, guard := some (j, want) } :: rest) tm H F =
    gIf (gV ops tm j) want (aopI P im tm H d (.buildSlice t m parts) (fun r H' => aops P im ops rest (updO tm d r) H' F)) (aops P im ops rest (updO tm d U) H F) .mk := go2
theorem h_makeSlice {want : Bool} : aops P im ops ({ dst := d, op := .makeSlice t x y, type := ty, pos := pos, after := aft, guard := some (j, want) } :: rest) tm H F =
    gIf (gV ops tm j) want (aopI P im tm H d (.makeSlice t x y) (fun r H' => aops P im ops rest (updO tm d r) H' F)) (aops P im ops rest (updO tm d U) H F) .mk := go2
theorem h_store {want : Bool} : aops P im ops ({ dst := d, op := .store t x y, type := ty, pos := pos, after := aft, guard := some (j, want) } :: rest) tm H F =
    gIf (gV ops tm j) want (aopI P im tm H d (.store t x y) (fun r H' => aops P im ops rest (updO tm d r) H' F)) (aops P im ops rest (updO tm d U) H F) .mk := go2

theorem retR_of {rs : List ResultVar} {Q : AV → AHeap → Prop} {l : List AV} (h : resA P H tm rs = some l) (hq : Q (oneA l) H) : retR P rs Q tm H :=
  ⟨[], by simp only [frz, h]; exact ⟨H, AHeap.le_refl H, hq⟩⟩
theorem retR_one {s : Nat} {Q : AV → AHeap → Prop} (hq : Q (tm s) H) : retR P [.tmp s] Q tm H := retR_of rfl hq
theorem retR_less {rs : List ResultVar} {Q : AV → AHeap → Prop} {l : List AV} {H' : AHeap} (h : resA P H tm rs = some l) (hl : AHeap.le H' H) (hq : Q (oneA l) H') : retR P rs Q tm H :=
  ⟨[], by simp only [frz, h]; exact ⟨H', hl, hq⟩⟩
theorem retR_frz {rs : List ResultVar} {Q : AV → AHeap → Prop} (fl : List Nat) (h : frz fl tm H fun tm H => retR P rs Q tm H) : retR P rs Q tm H := by
  have key : ∀ (fl : List Nat) (tm : Tm) (H : AHeap) (F : Tm → AHeap → Prop) (l : List Nat), frz fl tm H (fun tm H => frz l tm H F) → frz (fl ++ l) tm H F := by
    intro fl
    induction fl with
    | nil => intro tm H F l h; exact h
    | cons t fl ih =>
      intro tm H F l h
      simp only [List.cons_append, frz] at h ⊢
      split
      · rename_i e
        rw [e] at h
        simp only at h
        split
        · rename_i hb; rw [hb] at h; exact ⟨h.1, ih _ _ _ _ h.2⟩
        · rename_i hb; rw [hb] at h; exact h
      · rename_i e
        rw [e] at h
        simp only at h
        split
        · rename_i hb; rw [hb] at h; exact ⟨h.1, h.2.1, ih _ _ _ _ h.2.2⟩
        · rename_i hb; rw [hb] at h; exact h
      · rename_i h1 h2
        split at h
        · rename_i e; exact (h1 _ _ _ _ e).elim
        · rename_i e; exact (h2 _ _ _ _ _ e).elim
        · exact h
  have key2 : ∀ (fl : List Nat) (tm : Tm) (H : AHeap), frz fl tm H (fun tm H => retR P rs Q tm H) → ∃ l, frz (fl ++ l) tm H fun tm H => match resA P H tm rs with
    | some l => ∃ H', AHeap.le H' H ∧ Q (oneA l) H'
    | none => False := by
    intro fl
    induction fl with
    | nil => intro tm H h; exact h
    | cons t fl ih =>
      intro tm H h
      simp only [List.cons_append, frz] at h ⊢
      split at h
      · split at h
        · obtain ⟨l, hl⟩ := ih _ _ h.2; exact ⟨l, h.1, hl⟩
        · exact h.elim
      · split at h
        · obtain ⟨l, hl⟩ := ih _ _ h.2.2; exact ⟨l, h.1, h.2.1, hl⟩
        · exact h.elim
      · exact h.elim
  obtain ⟨l, hl⟩ := key2 fl tm H h
  exact ⟨fl ++ l, hl⟩

theorem aloop {c : Code} (hm : P.follows .mixedOrders = true) {fz : Nat → List Nat} {im : Nat → Bool} (hok : codeOk n c = true) (Inv : Nat → Tm → AHeap → Prop) (m0 : Nat) (h0 : Inv m0 tm H)
    (round : ∀ m tm H, Inv m tm H → awp P n fz im c tm H (sq (fun tm' H' => ∃ m', m' < m ∧ Inv m' tm' H') K)) : Sim P n (.loop c) tm H K :=
  sim_loop Inv m0 h0 fun m tm H h => awp_sound hm c tm H _ hok (round m tm H h)

def retA (P : Program) (rs : List ResultVar) (Q : AV → AHeap → Prop) (tm : Tm) (H : AHeap) : Prop :=
  match resA P H tm rs with
  | some l => Q (oneA l) H
  | none => False
def retQ0 (P : Program) (rs : List ResultVar) (Q : AV → AHeap → Prop) : APost
  | .normal, tm, H | .ret, tm, H => retA P rs Q tm H
  | _, _, _ => False
theorem ret0_ret {rs : List ResultVar} {Q : AV → AHeap → Prop} : retQ0 P rs Q .ret tm H = retA P rs Q tm H := rfl
theorem ret0_normal {rs : List ResultVar} {Q : AV → AHeap → Prop} : retQ0 P rs Q .normal tm H = retA P rs Q tm H := rfl
theorem retA_one {s : Nat} {Q : AV → AHeap → Prop} : retA P [.tmp s] Q tm H = Q (tm s) H := rfl
theorem retA_two {s u : Nat} {Q : AV → AHeap → Prop} : retA P [.tmp s, .tmp u] Q tm H = Q (.tup [tm s, tm u]) H := rfl
theorem retA_three {s u v : Nat} {Q : AV → AHeap → Prop} : retA P [.tmp s, .tmp u, .tmp v] Q tm H = Q (.tup [tm s, tm u, tm v]) H := rfl
theorem retA_nil {Q : AV → AHeap → Prop} : retA P [] Q tm H = Q (.tup []) H := rfl
theorem retA_four {s u v v' : Nat} {Q : AV → AHeap → Prop} : retA P [.tmp s, .tmp u, .tmp v, .tmp v'] Q tm H = Q (.tup [tm s, tm u, tm v, tm v']) H := rfl
theorem acalls_of0 {f : FuncId} {fn : Func} {c : Code} {args : List AV} {Q : AV → AHeap → Prop} {rs : List ResultVar} (hf : P.funcs[f]? = some fn) (hb : fn.body = some c) (hB : hasBody P f = true) (hr : fn.results = rs.toArray) (ha : Nat.ble args.length fn.ntmps = true)
    (h : Sim P fn.ntmps c (initTm args) H (retQ0 P rs Q)) : ACalls P f args H Q := by
  refine acalls_of hf hb hB hr (Nat.le_of_ble_eq_true ha) (sim_mono h ?_)
  intro e tm H hk
  have key : retA P rs Q tm H → retR P rs Q tm H := by
    intro hk
    unfold retA at hk
    split at hk
    · rename_i l hl; exact retR_of hl hk
    · exact hk.elim
  cases e <;> first | exact key hk | exact hk.elim
theorem acalls_of1 {f : FuncId} {fn : Func} {c : Code} {args : List AV} {Q : AV → AHeap → Prop} {rs : List ResultVar} (hf : P.funcs[f]? = some fn) (hb : fn.body = some c) (hB : hasBody P f = true) (hr : fn.results = rs.toArray) (ha : Nat.ble args.length fn.ntmps = true)
    (h : Sim P fn.ntmps c (initTm args) H (retQ P rs Q)) : ACalls P f args H Q := acalls_of hf hb hB hr (Nat.le_of_ble_eq_true ha) h

end
end Go.Sim
