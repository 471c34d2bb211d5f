/- The calculus: operations on values; cuts; append; conversions. No condition. -/
import Derived.Test.YtjpfgafdjlkblaaGreatSimE
import Derived.WideLaws
import Derived.Laws.IdiomStrings
namespace Go.Sim
open Go
section
variable {P : Program} {s : ASt} {a : Act} {w : World} {K : AV → AHeap → Prop}

def isConstOp : Operand → Bool
  | .const _ => true
  | _ => false

def binA (P : Program) (op : BinOp) (t : TypeId) (yc : Bool) (x y : AV) : Option AV :=
  match x, y with
  | .lit (.int k a), .lit (.int k' b) => match op with
    | .shl | .shr => (intShift op k a b).map .lit
    | _ => if k = k' then (intBin op k a b).map .lit else none
  | .lit (.string a), .lit (.string b) => (strBin op a.data.toList b.data.toList).map .lit
  | .lit (.bool a), .lit (.bool b) => if tbool P t = true then (boolBin op a b).map .lit else none
  | .agg xs, .agg ys => match teq P t with
    | some ks => match op, eqA ks xs ys with
      | .eql, some r => some (.lit (.bool r))
      | .neq, some r => some (.lit (.bool !r))
      | _, _ => none
    | none => none
  | .nonnil, .lit .nilIface => if tface P t = true then (match op with
      | .eql => some (.lit (.bool false))
      | .neq => some (.lit (.bool true))
      | _ => none) else none
  | .lit .nilIface, .lit .nilIface => if tface P t = true ∧ yc = true then (match op with
      | .eql => some (.lit (.bool true))
      | .neq => some (.lit (.bool false))
      | _ => none) else none
  | _, _ => none

theorem run_intBin {op : BinOp} {k : IntKind} {a b : Int} {t : TypeId} {r : Value} (h : intBin op k a b = some r) : (binOp op t (.int k a) (.int k b)).run P w = .ok r w := by
  cases op <;> simp only [intBin] at h
  case quo =>
    split at h
    · cases h
    · rename_i h0; cases h; simp [binOp_quo, Op.intDiv, h0]
  case rem =>
    split at h
    · cases h
    · rename_i h0; cases h; simp [binOp_rem, Op.intDiv, h0]
  case shl => cases h
  case shr => cases h
  case eql => cases h; rw [binOp_eql, Sem.run_pure]; rfl
  case neq => cases h; rw [binOp_neq, Sem.run_pure]; rfl
  all_goals (cases h; simp [binOp_add, binOp_sub, binOp_mul, binOp_and, binOp_or, binOp_xor, binOp_andNot, binOp_lss, binOp_leq, binOp_gtr, binOp_geq, Op.intArith, intBits_and, intBits_or, intBits_xor, intBits_andNot])

theorem run_intShift {op : BinOp} {k k' : IntKind} {a b : Int} {t : TypeId} {r : Value} (h : intShift op k a b = some r) : (binOp op t (.int k a) (.int k' b)).run P w = .ok r w := by
  unfold intShift at h
  split at h
  · cases h
  · rename_i h0
    cases op <;> first | (simp at h; done) | (cases h; simp [binOp_shl, binOp_shr, Op.shift, h0])

theorem eqGuard_int {op : BinOp} {t : TypeId} {x y : Operand} {k : IntKind} {n : Int} {v : Value} : eqGuard op t x y (.int k n) v = pure () := eqGuard_at_int op t x y v k n

theorem app_data (a b : ByteArray) : a ++ b = ⟨(a.data.toList ++ b.data.toList).toArray⟩ := by
  cases a; cases b
  simp [← ByteArray.append_eq, ByteArray.append]

theorem size_data (a : ByteArray) : a.size = a.data.toList.length := by show a.data.size = _; simp

theorem run_strBin {op : BinOp} {a b : ByteArray} {t : TypeId} {r : Value} (h : strBin op a.data.toList b.data.toList = some r) : (binOp op t (.string a) (.string b)).run P w = .ok r w := by
  have e : (binOp op t (.string a) (.string b)) = Op.stringOp op a b := by cases op <;> rfl
  rw [e]
  cases op <;> simp only [strBin] at h <;> first | (cases h; done) | skip
  · split at h
    · rename_i hl
      cases h
      rw [run_string_add_sum w a b (by rw [size_data, size_data]; exact hl), app_data]
    · cases h
  · cases h
    simp [Op.stringOp, beq_data]
  · cases h
    simp [Op.stringOp, beq_data]

theorem methodsAt_of {t : TypeId} {ms : Array (String × TypeId)} (h : P.underlying t = some (.interface ms)) : P.underlying t = some (.interface (P.methodsAt t)) := by
  rw [h]; simp [Program.methodsAt, h]

theorem binA_sound {O : Nat → Prop} {op : BinOp} {t : TypeId} {xo yo : Operand} {x y r : AV} {u v : Value} (hx : Rel O w x u) (hy : Rel O w y v) (hyc : isConstOp yo = true → ∃ c, yo = .const c) (h : binA P op t (isConstOp yo) x y = some r) :
    ∃ z, ((do eqGuard op t xo yo u v; binOp op t u v : Sem Value)).run P w = .ok z w ∧ Rel O w r z := by
  have g1 : ∀ z, (eqGuard op t xo yo u v).run P w = .ok () w → (binOp op t u v).run P w = .ok z w → ((do eqGuard op t xo yo u v; binOp op t u v : Sem Value)).run P w = .ok z w := by
    intro z h1 h2
    simp [h1, h2]
  unfold binA at h
  split at h
  · rename_i k a k' b
    cases hx
    cases hy
    have hg : (eqGuard op t xo yo (.int k a) (.int k' b)).run P w = .ok () w := by rw [eqGuard_int]; rfl
    split at h
    · cases hr : intShift .shl k a b with
      | none => rw [hr] at h; cases h
      | some q => rw [hr] at h; cases h; exact ⟨q, g1 q hg (run_intShift hr), .lit q⟩
    · cases hr : intShift .shr k a b with
      | none => rw [hr] at h; cases h
      | some q => rw [hr] at h; cases h; exact ⟨q, g1 q hg (run_intShift hr), .lit q⟩
    · split at h
      · rename_i e
        subst e
        cases hr : intBin op k a b with
        | none => rw [hr] at h; cases h
        | some q => rw [hr] at h; cases h; exact ⟨q, g1 q hg (run_intBin hr), .lit q⟩
      · cases h
  · rename_i a b
    cases hx
    cases hy
    cases hr : strBin op a.data.toList b.data.toList with
    | none => rw [hr] at h; cases h
    | some q => rw [hr] at h; cases h; exact ⟨q, g1 q (by rw [eqGuard_at_string]; rfl) (run_strBin hr), .lit q⟩
  · rename_i a b
    cases hx
    cases hy
    split at h
    · rename_i hb
      have hu := tbool_spec hb
      cases op <;> simp only [boolBin] at h <;> first | (cases h; done) | skip
      · cases h; exact ⟨_, g1 _ (by rw [eqGuard_at_bool]; rfl) (run_eql_bool w t a b hu), .lit _⟩
      · cases h; exact ⟨_, g1 _ (by rw [eqGuard_at_bool]; rfl) (run_neq_bool w t a b hu), .lit _⟩
    · cases h
  · rename_i xs ys
    cases hx with
    | agg _ us hs1 ho1 hr1 =>
      cases hy with
      | agg _ vs hs2 ho2 hr2 =>
        split at h
        · rename_i ks ht
          cases he : eqA ks xs ys with
          | none => rw [he] at h; cases op <;> simp at h
          | some q =>
            have h1 : RelL O w xs us.toList := ⟨by simp [hs1], fun i c v hc hv => hr1 i c v hc (by simpa using hv)⟩
            have h2 : RelL O w ys vs.toList := ⟨by simp [hs2], fun i c v hc hv => hr2 i c v hc (by simpa using hv)⟩
            obtain ⟨h3, h4⟩ := teq_run (w := w) ht (eqA_sound ks xs ys _ _ q h1 h2 he)
            have hg := run_eqGuard_agg w op t xo yo us vs h4
            rw [he] at h
            cases op <;> simp only at h <;> first | (cases h; done) | skip
            · cases h
              refine ⟨_, g1 _ hg ?_, .lit _⟩
              rw [run_eql_struct, h3]; rfl
            · cases h
              refine ⟨_, g1 _ hg ?_, .lit _⟩
              rw [run_neq_struct, h3]; rfl
        · cases h
  · cases hx with
    | nonnil d z =>
      cases hy
      split at h
      · rename_i hf
        obtain ⟨ms, hu⟩ := tface_spec hf
        have hg : (eqGuard op t xo yo (.iface d z) .nilIface).run P w = .ok () w := by rw [eqGuard_at_iface]; rfl
        cases op <;> simp only at h <;> first | (cases h; done) | skip
        · cases h; exact ⟨_, g1 _ hg (run_eql_held_nil w t d z (methodsAt_of hu)), .lit _⟩
        · cases h; exact ⟨_, g1 _ hg (run_neq_held_nil w t d z (methodsAt_of hu)), .lit _⟩
      · cases h
  · cases hx
    cases hy
    split at h
    · rename_i hf
      obtain ⟨ms, hu⟩ := tface_spec hf.1
      obtain ⟨c, hc⟩ := hyc hf.2
      subst hc
      have hg : (eqGuard op t xo (.const c) .nilIface .nilIface).run P w = .ok () w := by rw [eqGuard_nil_constR]; rfl
      cases op <;> simp only at h <;> first | (cases h; done) | skip
      · cases h; exact ⟨_, g1 _ hg (run_eql_nil_nil w t (methodsAt_of hu)), .lit _⟩
      · cases h; exact ⟨_, g1 _ hg (run_neq_nil_nil w t (methodsAt_of hu)), .lit _⟩
    · cases h
  · cases h

def unA (op : UnOp) (x : AV) : Option AV :=
  match op, x with
  | .not, .lit (.bool b) => some (.lit (.bool (!b)))
  | .neg, .lit (.int k n) => some (.lit (.int k (k.wrap (0 - n))))
  | _, _ => none
theorem unA_sound {O : Nat → Prop} {op : UnOp} {x r : AV} {u : Value} (hx : Rel O w x u) (h : unA op x = some r) : ∃ z, (Op.unary op u).run P w = .ok z w ∧ Rel O w r z := by
  unfold unA at h
  split at h
  · cases hx; cases h; exact ⟨_, rfl, .lit _⟩
  · cases hx; cases h; exact ⟨_, by simp [Op.unary, Op.intArith], .lit _⟩
  · cases h

def tsome (P : Program) (t : TypeId) : Bool := (P.underlying t).isSome

def byteRow : List AV → Option UInt8
  | [.lit (.int .u8 n)] => if 0 ≤ n ∧ n < 256 then some (UInt8.ofNat n.toNat) else none
  | _ => none
def bytesRows : List (List AV) → Option (List UInt8)
  | [] => some []
  | r :: rs => match byteRow r, bytesRows rs with
    | some b, some l => some (b :: l)
    | _, _ => none
theorem byteRow_spec {r : List AV} {c : UInt8} (h : byteRow r = some c) : r = [.lit (.int .u8 c.toNat)] := by
  unfold byteRow at h
  split at h
  · rename_i n
    split at h
    · rename_i hn
      cases h
      have : ((UInt8.ofNat n.toNat).toNat : Int) = n := by rw [UInt8.toNat_ofNat']; omega
      rw [this]
    · cases h
  · cases h
theorem bytesRows_spec : ∀ {es : List (List AV)} {l : List UInt8}, bytesRows es = some l → es = l.map fun c => [.lit (.int .u8 c.toNat)]
  | [], l, h => by cases h; rfl
  | r :: rs, l, h => by
    simp only [bytesRows] at h
    split at h
    · rename_i b l' h1 h2
      cases h
      rw [byteRow_spec h1, bytesRows_spec h2]
      rfl
    · cases h
def convA (P : Program) (src dst : TypeId) (x : AV) : Option AV :=
  match x with
  | .vsl es _ => match telem P src with
    | some e => if tint P e = some .u8 ∧ tstr P dst = true then (bytesRows es).map fun l => .lit (.string ⟨l.toArray⟩) else none
    | none => none
  | .lit (.int _ n) => if tsome P src then (match tint P dst with
      | some k => some (.lit (.int k (k.wrap n)))
      | none => if tstr P dst then some (.lit (.string (Utf8.encode n))) else none) else none
  | .lit (.string b) => if tsome P src then (if tstr P dst then some x else match telem P dst with
      | some e => if tint P e = some .u8 ∧ b.size ≤ 9223372036854775807 then some (.vsl (b.data.toList.map fun c => [.lit (.int .u8 c.toNat)]) false) else none
      | none => none) else none
  | _ => none

theorem convA_sound (h : StRel s a w) {src dst : TypeId} {x r : AV} {u : Value} (hx : Rel s.H.dom w x u) (hc : convA P src dst x = some r) :
    ∃ z w', (convert src dst u).run P w = .ok z w' ∧ Rel s.H.dom w' r z ∧ HRel s.H w' ∧ Ev s.H.dom w w' := by
  unfold convA at hc
  split at hc
  · rename_i es cl
    split at hc
    · rename_i e he
      split at hc
      · rename_i hi
        rw [Option.map_eq_some_iff] at hc
        obtain ⟨l, hl, rfl⟩ := hc
        have hes := bytesRows_spec hl
        cases hx with
        | vnil cl =>
          have : l = [] := by cases l with
            | nil => rfl
            | cons c l => cases hes
          subst this
          exact ⟨_, w, by simp [convert, run_underlying (telem_spec he), run_underlying (tstr_spec hi.2), run_underlying (tint_spec hi.1), Conv.bytesToString]; rfl, .lit _, h.heap, .refl _ _⟩
        | vsl es cl b o sz cap g h1 h2 h3 h4 h5 h6 h7 h8 h9 =>
          have hlen : l.length = es.length := by rw [hes, List.length_map]
          have hrun := run_convert_bytes_back (P := P) w src dst e ⟨b, o, none⟩ cap l (telem_spec he) (tint_spec hi.1) (tstr_spec hi.2) (fun j hj => by
            have hr : es[j]? = some [.lit (.int .u8 l[j].toNat)] := by rw [hes, List.getElem?_map, List.getElem?_eq_getElem hj]; rfl
            have hs1 := h6 j _ hr
            have hcell := h7 j 0 _ _ hr rfl
            have hrel := h9 j 0 _ _ hr rfl
            rw [add_plain, show o + j = o + (j * sz + 0) by rw [← hs1]; simp, hcell]
            generalize g j 0 = u at hrel ⊢
            cases hrel
            rfl)
          rw [hlen] at hrun
          exact ⟨_, w, hrun, .lit _, h.heap, .refl _ _⟩
      · cases hc
    · cases hc
  · rename_i k n
    cases hx
    split at hc
    · rename_i hs
      split at hc
      · rename_i kd hk
        cases hc
        have hu := tint_spec hk
        have e : P.intKind dst = kd := by simp [Program.intKind, hu]
        refine ⟨_, w, ?_, .lit _, h.heap, .refl _ _⟩
        rw [run_convert_int w src dst k n hs (by rw [e]; exact hu), e]
      · split at hc
        · rename_i hst
          cases hc
          exact ⟨_, w, run_convert_int_string w src dst k n hs (tstr_spec hst), .lit _, h.heap, .refl _ _⟩
        · cases hc
    · cases hc
  · rename_i b
    cases hx
    split at hc
    · rename_i hs
      obtain ⟨ds, hds⟩ := Option.isSome_iff_exists.1 hs
      split at hc
      · rename_i hst
        cases hc
        exact ⟨_, w, by simp [convert, run_underlying hds, run_underlying (tstr_spec hst)], .lit _, h.heap, .refl _ _⟩
      · split at hc
        · rename_i e he
          split at hc
          · rename_i hi
            cases hc
            have hrun := Lib.run_convert_string_bytes (P := P) w src dst e b hds (telem_spec he) (tint_spec hi.1)
            have hev := ev_bytesWorld s.H.dom w e b
            refine ⟨_, _, hrun, ?_, ?_, hev⟩
            · have hrows : RowsRel s.H.dom (Lib.bytesWorld w e b) 1 (b.data.toList.map fun c => [.lit (.int .u8 c.toNat)]) (b.data.toList.map fun c => .int .u8 c.toNat) := by
                refine ⟨by simp, ?_, ?_⟩
                · intro p r hp
                  rw [List.getElem?_map] at hp
                  cases hq : b.data.toList[p]? with
                  | none => rw [hq] at hp; cases hp
                  | some c => rw [hq] at hp; cases hp; rfl
                · intro p q r x hp hq
                  rw [List.getElem?_map] at hp
                  cases hq2 : b.data.toList[p]? with
                  | none => rw [hq2] at hp; cases hp
                  | some c =>
                    rw [hq2] at hp; cases hp
                    cases q with
                    | zero =>
                      cases hq
                      exact ⟨.int .u8 c.toNat, by simp [hq2], rfl, .lit _⟩
                    | succ q => simp at hq
              have := rel_vsl (cl := false) hrows (b := w.heap.size) (o := 0) (cap := grownCap w b.size 0 e) (fun j v hj => by
                  rw [List.getElem?_map] at hj
                  cases hq2 : b.data.toList[j]? with
                  | none => rw [hq2] at hj; cases hj
                  | some c =>
                    rw [hq2] at hj; cases hj
                    have hjl : j < b.size := by rw [size_data]; exact lt_of_get hq2
                    rw [Nat.zero_add, Lib.bytesWorld_cell w e b j hjl]
                    simp [List.getD, hq2]) (by rw [List.length_map, ← size_data]; exact grownCap_ge w b.size 0 e) (grownCap_le_maxLen w b.size 0 e (by unfold maxLen; omega)) (by simp)
                  (fun hd => by have := h.heap.lt hd; omega) (by rw [Lib.bytesWorld_size]; omega)
              rw [List.length_map, ← size_data] at this
              exact this
            · exact h.heap.keep hev (fun k hk => Lib.bytesWorld_at_old w e b k (h.heap.lt hk))
          · cases hc
        · cases hc
    · cases hc
  · cases hc

/-! ### Cuts -/
def optInt : Option AV → Option (Option Int)
  | none => some none
  | some (.lit (.int _ n)) => some (some n)
  | _ => none

def clipOf (m : Option Int) (h len : Int) (cl : Bool) : Bool :=
  match m with
  | some m => decide (m = h)
  | none => cl && decide (h = len)

def sliceA (P : Program) (t : TypeId) (x : AV) (lo hi mx : Option AV) : Option AV :=
  match optInt lo, optInt hi, optInt mx with
  | some l, some h, some m => match x with
    | .lit (.string b) => if tstr P t = true ∧ m = none ∧ 0 ≤ l.getD 0 ∧ l.getD 0 ≤ h.getD b.data.toList.length ∧ h.getD b.data.toList.length ≤ b.data.toList.length then
        some (.lit (.string ⟨((b.data.toList.take (h.getD b.data.toList.length).toNat).drop (l.getD 0).toNat).toArray⟩)) else none
    | .vsl es cl => match telem P t with
      | some e => match tinfo P e with
        | some ti => if 0 ≤ l.getD 0 ∧ l.getD 0 ≤ h.getD es.length ∧ h.getD es.length ≤ m.getD es.length ∧ m.getD es.length ≤ es.length ∧ (m = none ∨ h ≠ none) ∧ (∀ r ∈ es, r.length = ti.size) then
            some (.vsl ((es.take (h.getD es.length).toNat).drop (l.getD 0).toNat) (clipOf m (h.getD es.length) es.length cl)) else none
        | none => none
      | none => none
    | .sl b sz off len cl => match telem P t with
      | some e => match tinfo P e with
        | some ti => if sz = ti.size ∧ 0 ≤ l.getD 0 ∧ (l.getD 0 = 0 ∨ l.getD 0 < h.getD len) ∧ l.getD 0 ≤ h.getD len ∧ h.getD len ≤ m.getD len ∧ m.getD len ≤ len ∧ (m = none ∨ h ≠ none) then
            some (.sl b sz (off + (l.getD 0).toNat) ((h.getD len).toNat - (l.getD 0).toNat) (clipOf m (h.getD len) len cl)) else none
        | none => none
      | none => none
    | _ => none
  | _, _, _ => none

theorem optInt_spec {O : Nat → Prop} {x : Option AV} {v : Option Value} (hx : ∀ y, x = some y → ∃ u, v = some u ∧ Rel O w y u) (hn : x = none → v = none) {l : Option Int} (h : optInt x = some l) :
    (l = none ∧ v = none) ∨ ∃ k n, l = some n ∧ v = some (.int k n) := by
  cases x with
  | none => simp only [optInt] at h; cases h; exact .inl ⟨rfl, hn rfl⟩
  | some y =>
    obtain ⟨u, hu, hr⟩ := hx y rfl
    unfold optInt at h
    split at h
    · rename_i e; cases e
    · rename_i k n e
      cases e
      cases h
      cases hr
      exact .inr ⟨k, n, rfl, hu⟩
    · cases h

end
end Go.Sim
