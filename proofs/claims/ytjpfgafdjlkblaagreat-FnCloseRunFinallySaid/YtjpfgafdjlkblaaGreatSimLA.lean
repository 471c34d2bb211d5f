/- The calculus: a region that draws its order, with one operation that may come at any time. No condition. -/
import Derived.Test.YtjpfgafdjlkblaaGreatSimL
namespace Go.Sim
open Go
section
variable {P : Program} {a : Act} {w : World}

theorem draw_rest {qs : List Nat} {qv : Nat → AV} {r0 : Option Nat} {ds : List Deferred} {ops : Array Oper} {n : Nat} {tags : List Nat} {Hp : AHeap} {O0 : Nat → Prop} {w0 : World} {K : (Nat → AV) → AHeap → Prop} (f : Nat) (hedge : ∀ j oj, ops[j]? = some oj → ∀ e ∈ oj.after.toList, Region.binds .any e = true → e.on < j)
  (hpair : ∀ i j oi oj, i < j → i ≠ f → j ≠ f → ops[i]? = some oi → ops[j]? = some oj → anc (ancs ops.toList) i j = false → commB qs ops.toList i oi j oj = true)
  (htags : ∀ i, i < ops.size → tags.getD i 0 = tagD qs ops.toList (ancs ops.toList) i) :
  ∀ (fuel : Nat) (listed : Array Bool) (rem : List (Oper × Nat)) (tm : Nat → AV) (H : AHeap) (a : Act) (w : World), (∀ x ∈ rem, x.2 ≠ f) → rem.length = fuel → DInv ops listed rem → LOk qs n tags rem → StRel ⟨n, tm, H⟩ a w →
  Ev O0 w0 w → Fresh O0 H.dom w0 → a.defers = ds → ((∃ x ∈ rem, tags.getD x.2 0 = 1 ∨ tags.getD x.2 0 = 4) → Hp.le H) → aopsD P ops.toList tags qv Hp rem tm H K → wpAnyIn (WF r0) 0 P .any ops (Post n O0 w0 ds K) fuel listed a w := by
 intro fuel
 induction fuel with
 | zero =>
  intro listed rem tm H a w _ hlen hi _ hs he hf hds _ hk
  have hr : rem = [] := List.eq_nil_of_length_eq_zero hlen
  subst hr
  refine ⟨?_, rfl, tm, H, hk, hs, he, hf, hds⟩
  rw [List.eq_nil_iff_forall_not_mem]
  intro j hj
  rw [mem_ready] at hj
  obtain ⟨h0, o, ho, _⟩ := hj
  have := hi.mem j o ho h0
  simp at this
 | succ fuel ih =>
  intro listed rem tm H a w hrf hlen hi hl hs he hf hds hp hk
  refine ⟨fun hnil => ?_, fun j hj => ?_⟩
  ·exfalso
   cases rem with
   | nil => simp at hlen
   | cons x rem =>
    have hx : x.2 ∈ Region.ready .any ops listed := by
     rw [mem_ready]
     refine ⟨hi.left x (by simp), x.1, hi.entry x (by simp), fun e hem hb => ?_⟩
     have hlt := hedge x.2 x.1 (hi.entry x (by simp)) e (by simpa using hem) hb
     have hxs := (Array.getElem?_eq_some_iff.1 (hi.entry x (by simp))).1
     have hes : e.on < listed.size := by rw [hi.size]; omega
     by_cases hle : listed.getD e.on false = true
     ·exact hle
     ·exfalso
      have h0 := (getD_flip hes).2 hle
      obtain ⟨oe, hoe⟩ : ∃ oe, ops[e.on]? = some oe := ⟨ops[e.on]'(by omega), by rw [Array.getElem?_eq_getElem (by omega)]⟩
      have hm := hi.mem e.on oe hoe h0
      rw [List.mem_cons] at hm
      rcases hm with hm | hm
      ·rw [← hm] at hlt; simp at hlt
      ·have := (List.pairwise_cons.1 hl.sorted).1 _ hm
       simp at this; omega
    rw [hnil] at hx
    simp at hx
  ·have hjr := hj
   rw [mem_ready] at hj
   obtain ⟨h0, o, ho, hpred⟩ := hj
   have hmem := hi.mem j o ho h0
   obtain ⟨pre, post, hrem⟩ := List.append_of_mem hmem
   subst hrem
   have hjs := (Array.getElem?_eq_some_iff.1 ho).1
   have hS : ∀ k o', ops.toList[k]? = some o' → listed.getD k false = true → ∀ e ∈ o'.after.toList, Region.binds .any e = true → listed.getD e.on false = true := fun k o' hk' hlk e hem hb => hi.down k o' (by simpa using hk') hlk e hem hb
   have hanc : ∀ i, anc (ancs ops.toList) i j = true → listed.getD i false = true := fun i hia =>
    anc_done (S := fun k => listed.getD k false = true) hS hia (fun o' ho' e hem hb => by
     have : o' = o := by
      have h1 : ops[j]? = some o' := by simpa using ho'
      rw [ho] at h1; cases h1; rfl
     subst this
     exact hpred e (by simpa using hem) hb)
   have hnot : ∀ x ∈ pre ++ (o, j) :: post, ¬ listed.getD x.2 false = true := by
    intro x hx
    have hxs := (Array.getElem?_eq_some_iff.1 (hi.entry x hx)).1
    exact (getD_flip (by rw [hi.size]; exact hxs)).1 (hi.left x hx)
   have hcomm : ∀ x ∈ pre, Comm qs ops.toList tags x (o, j) := by
    intro x hx
    have hlt : x.2 < j := by
     have := List.pairwise_append.1 hl.sorted
     exact this.2.2 x hx (o, j) (by simp)
    have hxe := hi.entry x (by simp [hx])
    have hxs := (Array.getElem?_eq_some_iff.1 hxe).1
    have hna : anc (ancs ops.toList) x.2 j = false := by
     cases h : anc (ancs ops.toList) x.2 j with
     | false => rfl
     | true => exact absurd (hanc x.2 h) (hnot x (by simp [hx]))
    have hcb := hpair x.2 j x.1 o hlt (hrf x (by simp [hx])) (hrf (o, j) (by simp)) hxe ho hna
    unfold commB at hcb
    rw [Bool.and_eq_true] at hcb
    obtain ⟨b1, b2, b3⟩ := Oper.apart_spec hcb.1
    have hww : ¬ (isWq qs x.2 x.1.op = true ∧ isWq qs j o.op = true) := by
     intro ⟨e1, e2⟩
     have := hcb.2
     simp [e1, e2] at this
    have hx' : ops.toList[x.2]? = some x.1 := by simpa using hxe
    have ho' : ops.toList[j]? = some o := by simpa using ho
    have tag0 : ∀ i oi k ok, ops.toList[i]? = some oi → ops.toList[k]? = some ok → i < ops.size → k < ops.size → isWq qs k ok.op = true → (if i < k then anc (ancs ops.toList) i k else anc (ancs ops.toList) k i) = false → tags.getD i 0 = 0 → isLd oi.op = false := by
     intro i oi k ok hoi hok his hks hwk hun ht0
     cases hld : isLd oi.op with
     | false => rfl
     | true =>
      exfalso
      have hwi : isW oi.op = false := by
       cases hop : oi.op <;> rw [hop] at hld <;> first | (simp [isLd] at hld; done) | rfl
      have hqi : isQ qs i oi.op = false := by
       cases hop : oi.op <;> rw [hop] at hld <;> first | (simp [isLd] at hld; done) | simp [isQ]
      have hfl : flagD qs ops.toList (ancs ops.toList) i = true := by
       unfold flagD
       rw [hoi]
       simp only [hld,Bool.true_and,hqi,Bool.false_or]
       rw [List.any_eq_true]
       refine ⟨k, by simpa using hks, ?_⟩
       rw [hok]
       simp only [hwk,Bool.true_and,hun,Bool.not_false]
      rw [htags i his] at ht0
      unfold tagD at ht0
      rw [hoi] at ht0
      simp [hwi, hfl, hqi] at ht0
    exact ⟨b1, b2, b3, hww, fun hxw ht0 => tag0 j o x.2 x.1 ho' hx' hjs hxs hxw (by rw [if_neg (by omega)]; exact hna) ht0, fun how ht0 => tag0 x.2 x.1 j o hx' ho' hxs hjs how (by rw [if_pos hlt]; exact hna) ht0⟩
   have hty := hl.tag (o, j) (by simp)
   have hdo : dstOk n o.dst = true := hl.dst (o, j) (by simp)
   have hlen' : (pre ++ post).length = fuel := by simp at hlen ⊢; omega
   have hsub : ∀ x, x ∈ pre ++ post → x ∈ pre ++ (o, j) :: post := by
    intro x hx
    rw [List.mem_append] at hx ⊢
    rcases hx with hx | hx
    ·exact .inl hx
    ·exact .inr (by simp [hx])
   have hrf' : ∀ x ∈ pre ++ post, x.2 ≠ f := fun x hx => hrf x (hsub x hx)
   have hl' : LOk qs n tags (pre ++ post) := ⟨fun x hx => hl.dst x (hsub x hx), fun x hx => hl.tag x (hsub x hx), fun x hx z hz => hl.late x (hsub x hx) z (hsub z hz), by
    have := List.pairwise_append.1 hl.sorted
    refine List.pairwise_append.2 ⟨this.1, (List.pairwise_cons.1 this.2.1).2, fun x hx z hz => this.2.2 x hx z (by simp [hz])⟩⟩
   have hne : ∀ x ∈ pre ++ post, x.2 ≠ j := by
    intro x hx
    have hsp := List.pairwise_append.1 hl.sorted
    rw [List.mem_append] at hx
    rcases hx with hx | hx
    ·have := hsp.2.2 x hx (o, j) (by simp)
     simp at this; omega
    ·have := (List.pairwise_cons.1 hsp.2.1).1 x hx
     simp at this; omega
   have hi' : DInv ops (listed.setIfInBounds j true) (pre ++ post) := by
    refine ⟨by simp [hi.size], fun x hx => ?_, fun i oi hoi hli => ?_, fun x hx => hi.entry x (hsub x hx), fun k ok hok hlk e hem hb => ?_⟩
    ·rw [getD_set_ne true (Ne.symm (hne x hx))]; exact hi.left x (hsub x hx)
    ·by_cases hij : j = i
     ·subst hij
      exfalso
      have hjl : j < listed.size := by rw [hi.size]; exact hjs
      simp [Array.getD, hjl] at hli
     ·rw [getD_set_ne true hij] at hli
      have := hi.mem i oi hoi hli
      rw [List.mem_append, List.mem_cons] at this
      rw [List.mem_append]
      rcases this with h | h | h
      ·exact .inl h
      ·cases h; exact absurd rfl hij
      ·exact .inr h
    ·by_cases hkj : j = k
     ·subst hkj
      have : ok = o := by rw [ho] at hok; cases hok; rfl
      subst this
      exact getD_set_true (hpred e (by simpa using hem) hb)
     ·rw [getD_set_ne false hkj] at hlk
      exact getD_set_true (hi.down k ok hok hlk e hem hb)
   have hdf : ∀ v, (a.put o.dst v).defers = ds := fun v => by rw [← hds]; cases o.dst <;> rfl
   unfold wpOpIn
   rw [ho]
   simp only
   cases how : isWq qs j o.op with
   | true =>
    obtain ⟨g, hg, h1, h2⟩ := ahead_w (K := K) (y := (o, j)) how hty pre tm H (fun x hx => ⟨hcomm x hx, hl.tag x (by simp [hx])⟩) hk
    rw [gA_sound hs hg]
    cases g with
    | true =>
     simp only [if_true]
     refine wp_of_out hs hdo (aop_sound (s := ⟨n, tm, H⟩) hs (h1 rfl)) ?_
     rintro r H' a' w' ⟨k1, k2⟩ k3 k4 k5 k6
     refine ih _ _ _ H' a' w' hrf' hlen' hi' hl' k3 (he.trans hf k4) (hf.trans he.size k5) (k6.trans hds) (fun ⟨z, hz, hz1⟩ => ?_) k2
     rcases hty.2 how with e | e
     ·exfalso
      have hzs := (Array.getElem?_eq_some_iff.1 (hi.entry z (hsub z hz))).1
      have ho' : ops.toList[j]? = some o := by simpa using ho
      have hz' : ops.toList[z.2]? = some z.1 := by have := hi.entry z (hsub z hz); simpa using this
      rw [htags j hjs] at e
      unfold tagD at e
      rw [ho'] at e
      have how1 : isW o.op = true := by unfold isWq at how; simp only [Bool.and_eq_true] at how; exact how.1
      have how2 : isQ qs j o.op = false := by unfold isWq at how; simp only [Bool.and_eq_true,Bool.not_eq_true'] at how; exact how.2
      simp only [how1,how2,if_true,Bool.false_eq_true,if_false] at e
      split at e
      ·rename_i hall
       rw [List.all_eq_true] at hall
       have h3 := hall z.2 (by simpa using hzs)
       rw [htags z.2 hzs] at hz1
       have hfz : flagD qs ops.toList (ancs ops.toList) z.2 = true := flag_of hz' hz1
       rw [hfz] at h3
       simp only [Bool.not_true,Bool.false_or] at h3
       exact hnot z (hsub z hz) (hanc z.2 h3)
      ·cases e
     ·exact k1 e
    | false =>
     simp only [Bool.false_eq_true,if_false]
     exact ⟨fun _ _ => trivial, ih _ _ _ H _ w hrf' hlen' hi' hl' (hs.undef hdo) he hf (hdf _) (fun ⟨z, hz, hz1⟩ => hp ⟨z, hsub z hz, hz1⟩) (h2 rfl)⟩
   | false =>
    obtain ⟨g, hg, hv⟩ := extract_val (K := K) (qs := qs) (y := (o, j)) how pre tm H a w hl hcomm hs hp hk
    rw [gA_sound hs hg]
    cases g with
    | true =>
     obtain ⟨r, hr⟩ := hv rfl
     simp only [if_true]
     refine wp_of_out hs hdo (val_out hs (hty.1 how) (fun e => hp ⟨(o, j), by simp, e⟩) hr) ?_
     rintro q H' a' w'' ⟨rfl, rfl⟩ k5 k6 k7 k8
     exact ih _ _ _ _ a' w'' hrf' hlen' hi' hl' k5 (he.trans hf k6) (hf.trans he.size k7) (k8.trans hds) (fun ⟨z, hz, hz1⟩ => hp ⟨z, hsub z hz, hz1⟩)
      (ahead_pure (y := (o, j)) how hty pre tm _ (fun x hx => ⟨hcomm x hx, hl.tag x (by simp [hx])⟩) hg (fun _ => hr) (fun e => by cases e) hk)
    | false =>
     simp only [Bool.false_eq_true,if_false]
     exact ⟨fun _ _ => trivial, ih _ _ _ H _ w hrf' hlen' hi' hl' (hs.undef hdo) he hf (hdf _) (fun ⟨z, hz, hz1⟩ => hp ⟨z, hsub z hz, hz1⟩)
      (ahead_pure (y := (o, j)) how hty pre tm H (fun x hx => ⟨hcomm x hx, hl.tag x (by simp [hx])⟩) hg (fun e => by cases e) (fun _ => rfl) hk)⟩


def aopsT (P : Program) (ops : List Oper) (tags : List Nat) (qv : Nat → AV) (Hp : AHeap) (qs : List Nat) (F : Oper × Nat) (l2 : List (Oper × Nat)) : List (Oper × Nat) → (Nat → AV) → AHeap → ((Nat → AV) → AHeap → Prop) → Prop
 | [], tm, H, K => aopsD P ops tags qv Hp (F :: l2) tm H K
 | (o, i) :: rest, tm, H, K => match gA ops tm o.guard with
  | some g => (isWq qs i o.op = true → aopsD P ops tags qv Hp (F :: (o, i) :: (rest ++ l2)) tm H K) ∧ (g = true → stepD P Hp (tags.getD i 0) (qvd qv o.dst) o.op tm H fun r H' => aopsT P ops tags qv Hp qs F l2 rest (updO tm o.dst r) H' K) ∧ (g = false → aopsT P ops tags qv Hp qs F l2 rest (updO tm o.dst (.lit undef)) H K)
  | none => False
def notW (qs : List Nat) (x : Oper × Nat) : Bool := !isWq qs x.2 x.1.op
theorem stepD_mono0 {Hp H : AHeap} {t : Nat} {v : AV} {o : Op} {tm : Nat → AV} {k k' : AV → AHeap → Prop} (h : stepD P Hp t v o tm H k) (hk : ∀ r H', k r H' → k' r H') : stepD P Hp t v o tm H k' := by
 unfold stepD at *
 split at h
 ·exact keepA_mono hk h
 ·exact keepA_mono hk h
 ·exact aop_mono hk h
 ·exact aop_mono (fun r H' q => ⟨q.1, hk r H' q.2⟩) h
 ·exact ⟨h.1, hk _ _ h.2⟩
theorem T_first {qs tags : List Nat} {qv : Nat → AV} {ops : List Oper} {Hp : AHeap} {F : Oper × Nat} {l2 : List (Oper × Nat)} {K : (Nat → AV) → AHeap → Prop} : ∀ (l : List (Oper × Nat)) (tm : Nat → AV) (H : AHeap),
  aopsT P ops tags qv Hp qs F l2 l tm H K → aopsD P ops tags qv Hp (l.takeWhile (notW qs) ++ F :: (l.dropWhile (notW qs) ++ l2)) tm H K
 | [], tm, H, h => h
 | (o, i) :: rest, tm, H, h => by
  unfold aopsT at h
  by_cases c : notW qs (o, i) = true
  ·rw [List.takeWhile_cons_of_pos c, List.dropWhile_cons_of_pos c]
   simp only [List.cons_append]
   unfold aopsD
   cases hg : gA ops tm o.guard with
   | none => rw [hg] at h; exact h
   | some g =>
    rw [hg] at h
    exact ⟨fun e => stepD_mono0 (h.2.1 e) (fun r H' q => T_first rest _ _ q), fun e => T_first rest _ _ (h.2.2 e)⟩
  ·rw [List.takeWhile_cons_of_neg c, List.dropWhile_cons_of_neg c]
   have hw : isWq qs i o.op = true := by
    cases q : isWq qs i o.op
    ·exact absurd (by unfold notW; rw [q]; rfl) c
    ·rfl
   cases hg : gA ops tm o.guard with
   | none => rw [hg] at h; exact h.elim
   | some g => rw [hg] at h; exact h.1 hw
theorem T_pure {qs : List Nat} {qv : Nat → AV} {ops : List Oper} {tags : List Nat} {Hp : AHeap} {K : (Nat → AV) → AHeap → Prop} {F : Oper × Nat} {l2 : List (Oper × Nat)} {y : Oper × Nat} (hyw : isWq qs y.2 y.1.op = false) (hy : TagsOk qs tags y) (hF : Comm qs ops tags F y ∧ TagsOk qs tags F) {post : List (Oper × Nat)} {g : Bool} {r : AV} :
  ∀ (pre : List (Oper × Nat)) (tm : Nat → AV) (H : AHeap), (∀ x ∈ pre, Comm qs ops tags x y ∧ TagsOk qs tags x) → gA ops tm y.1.guard = some g → (g = true → Val P Hp H (tags.getD y.2 0) (qvd qv y.1.dst) tm y.1.op r) → (g = false → r = .lit undef) →
  aopsT P ops tags qv Hp qs F l2 (pre ++ y :: post) tm H K → aopsT P ops tags qv Hp qs F l2 (pre ++ post) (updO tm y.1.dst r) H K := by
 intro pre
 induction pre with
 | nil =>
  intro tm H _ hg hv hu hk
  simp only [List.nil_append] at hk ⊢
  obtain ⟨yo, yi⟩ := y
  unfold aopsT at hk
  rw [hg] at hk
  simp only at hk
  cases g with
  | true =>
   obtain ⟨r', h1, h2⟩ := (stepD_val (hy.1 hyw)).1 (hk.2.1 rfl)
   rw [(hv rfl).unique h1]
   exact h2
  | false => rw [hu rfl]; exact hk.2.2 rfl
 | cons x pre ih =>
  intro tm H hc hg hv hu hk
  obtain ⟨hcx, htx⟩ := hc x (by simp)
  obtain ⟨xo, xi⟩ := x
  simp only [List.cons_append] at hk ⊢
  unfold aopsT at hk ⊢
  rw [gA_upd hcx.a3]
  cases hgx : gA ops tm xo.guard with
  | none => rw [hgx] at hk; exact hk
  | some gx =>
   rw [hgx] at hk
   simp only at hk ⊢
   have go : ∀ (q : AV) (H' : AHeap), (isWq qs xi xo.op = false → H' = H) → aopsT P ops tags qv Hp qs F l2 (pre ++ y :: post) (updO tm xo.dst q) H' K → aopsT P ops tags qv Hp qs F l2 (pre ++ post) (updO (updO tm y.1.dst r) xo.dst q) H' K := by
    intro q H' hH hq
    rw [updO_comm (fun k hk e => hcx.a2 k e hk)]
    exact ih _ H' (fun z hz => hc z (by simp [hz])) (by rw [gA_upd hcx.a1]; exact hg) (fun e => (val_same hcx hH (hy.1 hyw)).2 (hv e)) hu hq
   refine ⟨fun hw => ?_, fun e => ?_, fun e => go _ H (fun _ => rfl) (hk.2.2 e)⟩
   ·have h0 := hk.1 hw
    have e1 : F :: (xo, xi) :: (pre ++ y :: post ++ l2) = (F :: (xo, xi) :: pre) ++ y :: (post ++ l2) := by simp
    have e2 : F :: (xo, xi) :: (pre ++ post ++ l2) = (F :: (xo, xi) :: pre) ++ (post ++ l2) := by simp
    rw [e1] at h0
    rw [e2]
    refine ahead_pure hyw hy (F :: (xo, xi) :: pre) tm H (fun z hz => ?_) hg hv hu h0
    rw [List.mem_cons] at hz
    rcases hz with rfl | hz
    ·exact hF
    ·exact hc z hz
   ·have h1 := hk.2.1 e
    cases hxw : isWq qs xi xo.op with
    | true =>
     rw [stepD_w (htx.2 hxw)] at h1 ⊢
     rw [aop_congr (ops_upd hcx.a3)]
     exact aop_mono (fun q H' hq => ⟨hq.1, go q H' (fun e => by rw [hxw] at e; cases e) hq.2⟩) h1
    | false =>
     obtain ⟨q, h1, h2⟩ := (stepD_val (htx.1 hxw)).1 h1
     exact (stepD_val (htx.1 hxw)).2 ⟨q, (val_congr (htx.1 hxw) (ops_upd hcx.a3) (fun _ => .inl rfl)).2 h1, go q H (fun _ => rfl) h2⟩
theorem T_w {qs : List Nat} {qv : Nat → AV} {ops : List Oper} {tags : List Nat} {Hp : AHeap} {K : (Nat → AV) → AHeap → Prop} {F : Oper × Nat} {l2 : List (Oper × Nat)} {y : Oper × Nat} (hyw : isWq qs y.2 y.1.op = true) (hy : TagsOk qs tags y) {post : List (Oper × Nat)} :
  ∀ (pre : List (Oper × Nat)) (tm : Nat → AV) (H : AHeap), (∀ x ∈ pre, Comm qs ops tags x y ∧ TagsOk qs tags x) → aopsT P ops tags qv Hp qs F l2 (pre ++ y :: post) tm H K →
  ∃ g, gA ops tm y.1.guard = some g ∧ (g = true → aop P tm H y.1.op (fun r H' => (tags.getD y.2 0 = 3 → Hp.le H') ∧ aopsT P ops tags qv Hp qs F l2 (pre ++ post) (updO tm y.1.dst r) H' K)) ∧
   (g = false → aopsT P ops tags qv Hp qs F l2 (pre ++ post) (updO tm y.1.dst (.lit undef)) H K) := by
 intro pre
 induction pre with
 | nil =>
  intro tm H _ hk
  obtain ⟨yo, yi⟩ := y
  simp only [List.nil_append] at hk ⊢
  unfold aopsT at hk
  cases hg : gA ops tm yo.guard with
  | none => rw [hg] at hk; exact hk.elim
  | some g =>
   rw [hg] at hk
   refine ⟨g, rfl, fun e => ?_, fun e => hk.2.2 e⟩
   have := hk.2.1 e
   rwa [stepD_w (hy.2 hyw)] at this
 | cons x pre ih =>
  intro tm H hc hk
  obtain ⟨hcx, htx⟩ := hc x (by simp)
  have hxw : isWq qs x.2 x.1.op = false := by
   cases h : isWq qs x.2 x.1.op with
   | false => rfl
   | true => exact absurd ⟨h, hyw⟩ hcx.w
  have hlk := htx.1 hxw
  obtain ⟨xo, xi⟩ := x
  simp only [List.cons_append] at hk ⊢
  unfold aopsT at hk
  cases hgx : gA ops tm xo.guard with
  | none => rw [hgx] at hk; exact hk.elim
  | some gx =>
   rw [hgx] at hk
   simp only at hk
   obtain ⟨q, hq, hq1, hq0⟩ : ∃ q, aopsT P ops tags qv Hp qs F l2 (pre ++ y :: post) (updO tm xo.dst q) H K ∧ (gx = true → Val P Hp H (tags.getD xi 0) (qvd qv xo.dst) tm xo.op q) ∧ (gx = false → q = .lit undef) := by
    cases gx with
    | true =>
     obtain ⟨q, h1, h2⟩ := (stepD_val hlk).1 (hk.2.1 rfl)
     exact ⟨q, h2, fun _ => h1, fun e => by cases e⟩
    | false => exact ⟨_, hk.2.2 rfl, fun e => (by cases e), fun _ => rfl⟩
   obtain ⟨g, hg, h1, h0⟩ := ih _ H (fun z hz => hc z (by simp [hz])) hq
   rw [gA_upd hcx.a1] at hg
   have back : ∀ (r : AV) (H' : AHeap), aopsT P ops tags qv Hp qs F l2 (pre ++ post) (updO (updO tm xo.dst q) y.1.dst r) H' K → aopsT P ops tags qv Hp qs F l2 ((xo, xi) :: (pre ++ post)) (updO tm y.1.dst r) H' K := by
    intro r H' hr
    unfold aopsT
    rw [gA_upd hcx.a3, hgx]
    simp only
    rw [updO_comm (fun k hk e => hcx.a2 k hk e)] at hr
    refine ⟨fun e => (by rw [hxw] at e; cases e), fun e => ?_, fun e => (by rw [← hq0 e]; exact hr)⟩
    exact (stepD_val hlk).2 ⟨q, (val_congr hlk (ops_upd hcx.a3) (fun h0 => .inr (hcx.r2 hyw h0))).2 (hq1 e), hr⟩
   refine ⟨g, hg, fun e => ?_, fun e => back _ H (h0 e)⟩
   have h2 := h1 e
   rw [aop_congr (ops_upd hcx.a1)] at h2
   exact aop_mono (fun r H' hr => ⟨hr.1, back r H' hr.2⟩) h2
theorem T_val {qs : List Nat} {qv : Nat → AV} {ops : Array Oper} {n : Nat} {tags : List Nat} {Hp : AHeap} {K : (Nat → AV) → AHeap → Prop} {F : Oper × Nat} {l2 : List (Oper × Nat)} {y : Oper × Nat} (hyw : isWq qs y.2 y.1.op = false) {post : List (Oper × Nat)} :
  ∀ (pre : List (Oper × Nat)) (tm : Nat → AV) (H : AHeap) (a : Act) (w : World), LOk qs n tags (pre ++ y :: post) → (∀ x ∈ pre, Comm qs ops.toList tags x y) → StRel ⟨n, tm, H⟩ a w →
  ((∃ x ∈ pre ++ y :: post, tags.getD x.2 0 = 1 ∨ tags.getD x.2 0 = 4) → Hp.le H) → aopsT P ops.toList tags qv Hp qs F l2 (pre ++ y :: post) tm H K →
  ∃ g, gA ops.toList tm y.1.guard = some g ∧ (g = true → ∃ r, Val P Hp H (tags.getD y.2 0) (qvd qv y.1.dst) tm y.1.op r) := by
 intro pre
 induction pre with
 | nil =>
  intro tm H a w hl _ hs hp hk
  simp only [List.nil_append] at hk hl
  unfold aopsT at hk
  cases hg : gA ops.toList tm y.1.guard with
  | none => rw [hg] at hk; exact hk.elim
  | some g =>
   rw [hg] at hk
   refine ⟨g, rfl, fun e => ?_⟩
   obtain ⟨r, h1, _⟩ := (stepD_val ((hl.tag y (by simp)).1 hyw)).1 (hk.2.1 e)
   exact ⟨r, h1⟩
 | cons x pre ih =>
  intro tm H a w hl hc hs hp hk
  have hcx := hc x (by simp)
  simp only [List.cons_append] at hk hl hp
  have htx := hl.tag x (by simp)
  have hty := hl.tag y (by simp)
  have hdx := hl.dst x (by simp)
  unfold aopsT at hk
  cases hgx : gA ops.toList tm x.1.guard with
  | none => rw [hgx] at hk; exact hk.elim
  | some gx =>
   rw [hgx] at hk
   simp only at hk
   have fin : ∀ (q : AV) (H' : AHeap) (a' : Act) (w' : World), (isWq qs x.2 x.1.op = false → H' = H) → StRel ⟨n, updO tm x.1.dst q, H'⟩ a' w' → ((∃ z ∈ pre ++ y :: post, tags.getD z.2 0 = 1 ∨ tags.getD z.2 0 = 4) → Hp.le H') →
     aopsT P ops.toList tags qv Hp qs F l2 (pre ++ y :: post) (updO tm x.1.dst q) H' K → ∃ g, gA ops.toList tm y.1.guard = some g ∧ (g = true → ∃ r, Val P Hp H (tags.getD y.2 0) (qvd qv y.1.dst) tm y.1.op r) := by
    intro q H' a' w' hH hs' hp' hk'
    obtain ⟨g, h1, h2⟩ := ih _ H' a' w' hl.tail (fun z hz => hc z (by simp [hz])) hs' hp' hk'
    rw [gA_upd hcx.a1] at h1
    refine ⟨g, h1, fun e => ?_⟩
    obtain ⟨r, hr⟩ := h2 e
    exact ⟨r, (val_same hcx hH (hty.1 hyw)).1 hr⟩
   cases gx with
   | false => exact fin _ H _ w (fun _ => rfl) (hs.undef hdx) (fun ⟨z, hz, hz1⟩ => hp ⟨z, by simp [hz], hz1⟩) (hk.2.2 rfl)
   | true =>
    have h1 := hk.2.1 rfl
    cases hxw : isWq qs x.2 x.1.op with
    | true =>
     rw [stepD_w (htx.2 hxw)] at h1
     obtain ⟨q, H', v, w', ⟨k1, k2⟩, k3, k4, k5, k6⟩ := out_exists (aop_sound (s := ⟨n, tm, H⟩) hs h1)
     refine fin q H' _ w' (fun e => by rw [hxw] at e; cases e) (hs.put (s := ⟨n, tm, H⟩) hdx k5 k6 k3 k4) (fun ⟨z, hz, hz1⟩ => ?_) k2
     rcases htx.2 hxw with e | e
     ·exfalso
      have hlt := hl.late x (by simp) z (by simp [hz]) e hz1
      have hgt := (List.pairwise_cons.1 hl.sorted).1 z hz
      omega
     ·exact k1 e
    | false =>
     obtain ⟨q, h2, h3⟩ := (stepD_val (htx.1 hxw)).1 h1
     have hout := val_out hs (htx.1 hxw) (fun e => hp ⟨x, by simp, e⟩) h2
     obtain ⟨q', H', v, w', ⟨rfl, rfl⟩, k2, k3, k4, k5⟩ := out_exists hout
     exact fin q' H' _ w' (fun _ => rfl) (hs.put (s := ⟨n, tm, H'⟩) hdx k4 k5 k2 k3) (fun ⟨z, hz, hz1⟩ => hp ⟨z, by simp [hz], hz1⟩) h3

theorem Comm.symm {qs tags : List Nat} {ops : List Oper} {x y : Oper × Nat} (h : Comm qs ops tags x y) : Comm qs ops tags y x :=
 ⟨h.a3, fun k hk e => h.a2 k e hk, h.a1, fun q => h.w ⟨q.2, q.1⟩, h.r2, h.r1⟩
theorem comm_of {qs tags : List Nat} {ops : Array Oper} (htags : ∀ i, i < ops.size → tags.getD i 0 = tagD qs ops.toList (ancs ops.toList) i) {i j : Nat} {oi oj : Oper} (hlt : i < j) (hxe : ops[i]? = some oi) (ho : ops[j]? = some oj) (hna : anc (ancs ops.toList) i j = false) (hcb : commB qs ops.toList i oi j oj = true) :
  Comm qs ops.toList tags (oi, i) (oj, j) := by
 have hxs := (Array.getElem?_eq_some_iff.1 hxe).1
 have hjs := (Array.getElem?_eq_some_iff.1 ho).1
 unfold commB at hcb
 rw [Bool.and_eq_true] at hcb
 obtain ⟨b1, b2, b3⟩ := Oper.apart_spec hcb.1
 have hww : ¬ (isWq qs i oi.op = true ∧ isWq qs j oj.op = true) := by
  intro ⟨e1, e2⟩
  have := hcb.2
  simp [e1, e2] at this
 have hx' : ops.toList[i]? = some oi := by simpa using hxe
 have ho' : ops.toList[j]? = some oj := by simpa using ho
 have tag0 : ∀ i oi k ok, ops.toList[i]? = some oi → ops.toList[k]? = some ok → i < ops.size → k < ops.size → isWq qs k ok.op = true → (if i < k then anc (ancs ops.toList) i k else anc (ancs ops.toList) k i) = false → tags.getD i 0 = 0 → isLd oi.op = false := by
  intro i oi k ok hoi hok his hks hwk hun ht0
  cases hld : isLd oi.op with
  | false => rfl
  | true =>
   exfalso
   have hwi : isW oi.op = false := by
    cases hop : oi.op <;> rw [hop] at hld <;> first | (simp [isLd] at hld; done) | rfl
   have hqi : isQ qs i oi.op = false := by
    cases hop : oi.op <;> rw [hop] at hld <;> first | (simp [isLd] at hld; done) | simp [isQ]
   have hfl : flagD qs ops.toList (ancs ops.toList) i = true := by
    unfold flagD
    rw [hoi]
    simp only [hld,Bool.true_and,hqi,Bool.false_or]
    rw [List.any_eq_true]
    refine ⟨k, by simpa using hks, ?_⟩
    rw [hok]
    simp only [hwk,Bool.true_and,hun,Bool.not_false]
   rw [htags i his] at ht0
   unfold tagD at ht0
   rw [hoi] at ht0
   simp [hwi, hfl, hqi] at ht0
 exact ⟨b1, b2, b3, hww, fun hxw ht0 => tag0 j oj i oi ho' hx' hjs hxs hxw (by rw [if_neg (by omega)]; exact hna) ht0, fun how ht0 => tag0 i oi j oj hx' ho' hxs hjs how (by rw [if_pos hlt]; exact hna) ht0⟩
theorem DInv.step {ops : Array Oper} {listed : Array Bool} {pre post : List (Oper × Nat)} {o : Oper} {j : Nat} (hi : DInv ops listed (pre ++ (o, j) :: post)) (hs : (pre ++ (o, j) :: post).Pairwise (fun x y => x.2 < y.2)) (ho : ops[j]? = some o) (hpred : ∀ e ∈ o.after.toList, Region.binds .any e = true → listed.getD e.on false = true) :
  DInv ops (listed.setIfInBounds j true) (pre ++ post) ∧ ∀ x ∈ pre ++ post, x.2 ≠ j := by
 have hjs := (Array.getElem?_eq_some_iff.1 ho).1
 have hsub : ∀ x, x ∈ pre ++ post → x ∈ pre ++ (o, j) :: post := by
  intro x hx
  rw [List.mem_append] at hx ⊢
  rcases hx with hx | hx
  ·exact .inl hx
  ·exact .inr (by simp [hx])
 have hne : ∀ x ∈ pre ++ post, x.2 ≠ j := by
  intro x hx
  have hsp := List.pairwise_append.1 hs
  rw [List.mem_append] at hx
  rcases hx with hx | hx
  ·have := hsp.2.2 x hx (o, j) (by simp)
   simp at this; omega
  ·have := (List.pairwise_cons.1 hsp.2.1).1 x hx
   simp at this; omega
 refine ⟨?_, hne⟩
 refine ⟨by simp [hi.size], fun x hx => ?_, fun i oi hoi hli => ?_, fun x hx => hi.entry x (hsub x hx), fun k ok hok hlk e hem hb => ?_⟩
 ·rw [getD_set_ne true (Ne.symm (hne x hx))]; exact hi.left x (hsub x hx)
 ·by_cases hij : j = i
  ·subst hij
   exfalso
   have hjl : j < listed.size := by rw [hi.size]; exact hjs
   simp [Array.getD, hjl] at hli
  ·rw [getD_set_ne true hij] at hli
   have := hi.mem i oi hoi hli
   rw [List.mem_append, List.mem_cons] at this
   rw [List.mem_append]
   rcases this with h | h | h
   ·exact .inl h
   ·cases h; exact absurd rfl hij
   ·exact .inr h
 ·by_cases hkj : j = k
  ·subst hkj
   have : ok = o := by rw [ho] at hok; cases hok; rfl
   subst this
   exact getD_set_true (hpred e (by simpa using hem) hb)
  ·rw [getD_set_ne false hkj] at hlk
   exact getD_set_true (hi.down k ok hok hlk e hem hb)
theorem LOk.drop {qs tags : List Nat} {n : Nat} {pre post : List (Oper × Nat)} {x : Oper × Nat} (hl : LOk qs n tags (pre ++ x :: post)) : LOk qs n tags (pre ++ post) := by
 have hsub : ∀ z, z ∈ pre ++ post → z ∈ pre ++ x :: post := by
  intro z hz
  rw [List.mem_append] at hz ⊢
  rcases hz with hz | hz
  ·exact .inl hz
  ·exact .inr (by simp [hz])
 exact ⟨fun z hz => hl.dst z (hsub z hz), fun z hz => hl.tag z (hsub z hz), fun z hz u hu => hl.late z (hsub z hz) u (hsub u hu), by
  have := List.pairwise_append.1 hl.sorted
  exact List.pairwise_append.2 ⟨this.1, (List.pairwise_cons.1 this.2.1).2, fun z hz u hu => this.2.2 z hz u (by simp [hu])⟩⟩
theorem LOk.left {qs tags : List Nat} {n : Nat} {l r : List (Oper × Nat)} (hl : LOk qs n tags (l ++ r)) : LOk qs n tags l :=
 ⟨fun z hz => hl.dst z (List.mem_append_left _ hz), fun z hz => hl.tag z (List.mem_append_left _ hz), fun z hz u hu => hl.late z (List.mem_append_left _ hz) u (List.mem_append_left _ hu), (List.pairwise_append.1 hl.sorted).1⟩
theorem draw_float {qs : List Nat} {qv : Nat → AV} {r0 : Option Nat} {ds : List Deferred} {ops : Array Oper} {n : Nat} {tags : List Nat} {Hp : AHeap} {O0 : Nat → Prop} {w0 : World} {K : (Nat → AV) → AHeap → Prop} (f : Nat) (hedge : ∀ j oj, ops[j]? = some oj → ∀ e ∈ oj.after.toList, Region.binds .any e = true → e.on < j)
  (hpair : ∀ i j oi oj, i < j → ops[i]? = some oi → ops[j]? = some oj → anc (ancs ops.toList) i j = false → commB qs ops.toList i oi j oj = true ∨ ((i = f ∨ j = f) ∧ isWq qs i oi.op = true ∧ isWq qs j oj.op = true))
  (htags : ∀ i, i < ops.size → tags.getD i 0 = tagD qs ops.toList (ancs ops.toList) i) (F : Oper) (hFo : ops[f]? = some F) (hFw : isWq qs f F.op = true) (hF2 : tags.getD f 0 = 2 ∨ tags.getD f 0 = 3) (hF0 : ∀ i, i < ops.size → anc (ancs ops.toList) i f = false) (l2 : List (Oper × Nat)) (hl2 : ∀ x ∈ l2, anc (ancs ops.toList) f x.2 = true) :
  ∀ (fuel : Nat) (listed : Array Bool) (l1 : List (Oper × Nat)) (tm : Nat → AV) (H : AHeap) (a : Act) (w : World), (∀ x ∈ l1 ++ l2, x.2 ≠ f) → (l1 ++ (F, f) :: l2).length = fuel → DInv ops listed (l1 ++ (F, f) :: l2) → LOk qs n tags (l1 ++ (F, f) :: l2) → StRel ⟨n, tm, H⟩ a w →
  Ev O0 w0 w → Fresh O0 H.dom w0 → a.defers = ds → ((∃ x ∈ l1 ++ (F, f) :: l2, tags.getD x.2 0 = 1 ∨ tags.getD x.2 0 = 4) → Hp.le H) → aopsT P ops.toList tags qv Hp qs (F, f) l2 l1 tm H K → wpAnyIn (WF r0) 0 P .any ops (Post n O0 w0 ds K) fuel listed a w := by
 have hpair' : ∀ i j oi oj, i < j → i ≠ f → j ≠ f → ops[i]? = some oi → ops[j]? = some oj → anc (ancs ops.toList) i j = false → commB qs ops.toList i oi j oj = true := fun i j oi oj h1 h2 h3 h4 h5 h6 => by
  rcases hpair i j oi oj h1 h4 h5 h6 with h | ⟨h | h, _⟩
  ·exact h
  ·exact absurd h h2
  ·exact absurd h h3
 intro fuel
 induction fuel with
 | zero => intro listed l1 tm H a w _ hlen; simp at hlen
 | succ fuel ih =>
  intro listed l1 tm H a w hrf hlen hi hl hs he hf hds hp hk
  refine ⟨fun hnil => ?_, fun j hj => ?_⟩
  ·exfalso
   obtain ⟨x, rem, hrem⟩ : ∃ x rem, l1 ++ (F, f) :: l2 = x :: rem := by
    cases l1 with
    | nil => exact ⟨_, _, rfl⟩
    | cons y l => exact ⟨_, _, rfl⟩
   rw [hrem] at hi hl
   have hx : x.2 ∈ Region.ready .any ops listed := by
    rw [mem_ready]
    refine ⟨hi.left x (by simp), x.1, hi.entry x (by simp), fun e hem hb => ?_⟩
    have hlt := hedge x.2 x.1 (hi.entry x (by simp)) e (by simpa using hem) hb
    have hxs := (Array.getElem?_eq_some_iff.1 (hi.entry x (by simp))).1
    have hes : e.on < listed.size := by rw [hi.size]; omega
    by_cases hle : listed.getD e.on false = true
    ·exact hle
    ·exfalso
     have h0 := (getD_flip hes).2 hle
     obtain ⟨oe, hoe⟩ : ∃ oe, ops[e.on]? = some oe := ⟨ops[e.on]'(by omega), by rw [Array.getElem?_eq_getElem (by omega)]⟩
     have hm := hi.mem e.on oe hoe h0
     rw [List.mem_cons] at hm
     rcases hm with hm | hm
     ·rw [← hm] at hlt; simp at hlt
     ·have := (List.pairwise_cons.1 hl.sorted).1 _ hm
      simp at this; omega
   rw [hnil] at hx
   simp at hx
  ·rw [mem_ready] at hj
   obtain ⟨h0, o, ho, hpred⟩ := hj
   have hmem := hi.mem j o ho h0
   have hS : ∀ k o', ops.toList[k]? = some o' → listed.getD k false = true → ∀ e ∈ o'.after.toList, Region.binds .any e = true → listed.getD e.on false = true := fun k o' hk' hlk e hem hb => hi.down k o' (by simpa using hk') hlk e hem hb
   have hanc : ∀ i, anc (ancs ops.toList) i j = true → listed.getD i false = true := fun i hia =>
    anc_done (S := fun k => listed.getD k false = true) hS hia (fun o' ho' e hem hb => by
     have : o' = o := by
      have h1 : ops[j]? = some o' := by simpa using ho'
      rw [ho] at h1; cases h1; rfl
     subst this
     exact hpred e (by simpa using hem) hb)
   have hnot : ∀ x ∈ l1 ++ (F, f) :: l2, ¬ listed.getD x.2 false = true := by
    intro x hx
    have hxs := (Array.getElem?_eq_some_iff.1 (hi.entry x hx)).1
    exact (getD_flip (by rw [hi.size]; exact hxs)).1 (hi.left x hx)
   have hdo : dstOk n o.dst = true := hl.dst (o, j) hmem
   have hty := hl.tag (o, j) hmem
   have hdf : ∀ v, (a.put o.dst v).defers = ds := fun v => by rw [← hds]; cases o.dst <;> rfl
   have hjs := (Array.getElem?_eq_some_iff.1 ho).1
   have ho' : ops.toList[j]? = some o := by simpa using ho
   have stay : isWq qs j o.op = true → tags.getD j 0 = 2 → ∀ z ∈ l1 ++ (F, f) :: l2, z.2 ≠ j → tags.getD z.2 0 = 1 ∨ tags.getD z.2 0 = 4 → False := by
    intro how e z hz hzj hz1
    have hzs := (Array.getElem?_eq_some_iff.1 (hi.entry z hz)).1
    have hz' : ops.toList[z.2]? = some z.1 := by have := hi.entry z hz; simpa using this
    rw [htags j hjs] at e
    unfold tagD at e
    rw [ho'] at e
    have how1 : isW o.op = true := by unfold isWq at how; simp only [Bool.and_eq_true] at how; exact how.1
    have how2 : isQ qs j o.op = false := by unfold isWq at how; simp only [Bool.and_eq_true,Bool.not_eq_true'] at how; exact how.2
    simp only [how1,how2,if_true,Bool.false_eq_true,if_false] at e
    split at e
    ·rename_i hall
     rw [List.all_eq_true] at hall
     have h3 := hall z.2 (by simpa using hzs)
     rw [htags z.2 hzs] at hz1
     have hfz : flagD qs ops.toList (ancs ops.toList) z.2 = true := flag_of hz' hz1
     rw [hfz] at h3
     simp only [Bool.not_true,Bool.false_or] at h3
     exact hnot z hz (hanc z.2 h3)
    ·cases e
   unfold wpOpIn
   rw [ho]
   simp only
   by_cases hjf : j = f
   ·subst hjf
    have hof : o = F := by rw [ho] at hFo; cases hFo; rfl
    subst hof
    obtain ⟨hi', hne⟩ := hi.step hl.sorted ho (fun e hem hb => hpred e (by simpa using hem) hb)
    have hT := T_first l1 tm H hk
    have hsplit : l1.takeWhile (notW qs) ++ l1.dropWhile (notW qs) = l1 := List.takeWhile_append_dropWhile
    have hcF : ∀ x ∈ l1.takeWhile (notW qs), Comm qs ops.toList tags x (o, j) ∧ TagsOk qs tags x := by
     intro x hx
     have hxl : x ∈ l1 := (List.takeWhile_sublist _).subset hx
     have hxm : x ∈ l1 ++ (o, j) :: l2 := by simp [hxl]
     have hlt : x.2 < j := by
      have := List.pairwise_append.1 hl.sorted
      exact this.2.2 x hxl (o, j) (by simp)
     have hxe := hi.entry x hxm
     have hna : anc (ancs ops.toList) x.2 j = false := by
      cases h : anc (ancs ops.toList) x.2 j with
      | false => rfl
      | true => exact absurd (hanc x.2 h) (hnot x hxm)
     have hnw : isWq qs x.2 x.1.op = false := by
      have key : ∀ (l : List (Oper × Nat)), x ∈ l.takeWhile (notW qs) → notW qs x = true := by
       intro l
       induction l with
       | nil => intro h; cases h
       | cons z l ihl =>
        intro h
        by_cases c : notW qs z = true
        ·rw [List.takeWhile_cons_of_pos c, List.mem_cons] at h
         rcases h with rfl | h
         ·exact c
         ·exact ihl h
        ·rw [List.takeWhile_cons_of_neg c] at h; cases h
      have := key l1 hx
      unfold notW at this
      simpa using this
     refine ⟨?_, hl.tag x hxm⟩
     rcases hpair x.2 j x.1 o hlt hxe ho hna with h | ⟨_, h, _⟩
     ·exact comm_of htags hlt hxe ho hna h
     ·rw [hnw] at h; cases h
    obtain ⟨g, hg, h1, h2⟩ := ahead_w (K := K) (y := (o, j)) hFw hty _ tm H hcF hT
    rw [← List.append_assoc, hsplit] at h1 h2
    rw [gA_sound hs hg]
    have hlen' : (l1 ++ l2).length = fuel := by simp at hlen ⊢; omega
    cases g with
    | true =>
     simp only [if_true]
     refine wp_of_out hs hdo (aop_sound (s := ⟨n, tm, H⟩) hs (h1 rfl)) ?_
     rintro r H' a' w' ⟨k1, k2⟩ k3 k4 k5 k6
     refine draw_rest j hedge hpair' htags _ _ _ _ H' a' w' hne hlen' hi' hl.drop k3 (he.trans hf k4) (hf.trans he.size k5) (k6.trans hds) (fun ⟨z, hz, hz1⟩ => ?_) k2
     rcases hF2 with e | e
     ·exact (stay hFw e z (by rw [List.mem_append] at hz ⊢; rcases hz with hz | hz; exact .inl hz; exact .inr (by simp [hz])) (hne z hz) hz1).elim
     ·exact k1 e
    | false =>
     simp only [Bool.false_eq_true,if_false]
     exact ⟨fun _ _ => trivial, draw_rest j hedge hpair' htags _ _ _ _ H _ w hne hlen' hi' hl.drop (hs.undef hdo) he hf (hdf _) (fun ⟨z, hz, hz1⟩ => hp ⟨z, by rw [List.mem_append] at hz ⊢; rcases hz with hz | hz; exact .inl hz; exact .inr (by simp [hz]), hz1⟩) (h2 rfl)⟩
   ·have hm1 : (o, j) ∈ l1 := by
     rw [List.mem_append, List.mem_cons] at hmem
     rcases hmem with h | h | h
     ·exact h
     ·cases h; exact absurd rfl hjf
     ·exact absurd (hanc f (hl2 _ h)) (hnot (F, f) (by simp))
    obtain ⟨pre, post, hrem⟩ := List.append_of_mem hm1
    subst hrem
    have ea : pre ++ (o, j) :: post ++ (F, f) :: l2 = pre ++ (o, j) :: (post ++ (F, f) :: l2) := by simp
    have eb : pre ++ (post ++ (F, f) :: l2) = (pre ++ post) ++ (F, f) :: l2 := by simp
    have hsrt := hl.sorted
    rw [ea] at hsrt
    have hi1 := hi
    rw [ea] at hi1
    obtain ⟨hi', hne⟩ := hi1.step hsrt ho (fun e hem hb => hpred e (by simpa using hem) hb)
    have hl1 := hl
    rw [ea] at hl1
    have hl' := hl1.drop
    rw [eb] at hi' hl' hne
    have hsub : ∀ x, x ∈ (pre ++ post) ++ (F, f) :: l2 → x ∈ pre ++ (o, j) :: post ++ (F, f) :: l2 := by
     intro x hx
     simp only [List.mem_append,List.mem_cons] at hx ⊢
     rcases hx with (h | h) | h | h
     ·exact .inl (.inl h)
     ·exact .inl (.inr (.inr h))
     ·exact .inr (.inl h)
     ·exact .inr (.inr h)
    have hrf' : ∀ x ∈ (pre ++ post) ++ l2, x.2 ≠ f := fun x hx => hrf x (by
     simp only [List.mem_append,List.mem_cons] at hx ⊢
     rcases hx with (h | h) | h
     ·exact .inl (.inl h)
     ·exact .inl (.inr (.inr h))
     ·exact .inr h)
    have hlen' : ((pre ++ post) ++ (F, f) :: l2).length = fuel := by simp at hlen ⊢; omega
    have hcomm : ∀ x ∈ pre, Comm qs ops.toList tags x (o, j) ∧ TagsOk qs tags x := by
     intro x hx
     have hxm : x ∈ pre ++ (o, j) :: post ++ (F, f) :: l2 := by simp [hx]
     have hlt : x.2 < j := (List.pairwise_append.1 hsrt).2.2 x hx (o, j) (by simp)
     have hxe := hi.entry x hxm
     have hna : anc (ancs ops.toList) x.2 j = false := by
      cases h : anc (ancs ops.toList) x.2 j with
      | false => rfl
      | true => exact absurd (hanc x.2 h) (hnot x hxm)
     refine ⟨comm_of htags hlt hxe ho hna (hpair' x.2 j x.1 o hlt (hrf x (by simp [hx])) hjf hxe ho hna), hl.tag x hxm⟩
    cases how : isWq qs j o.op with
    | true =>
     obtain ⟨g, hg, h1, h2⟩ := T_w (K := K) (y := (o, j)) how hty pre tm H hcomm hk
     rw [gA_sound hs hg]
     cases g with
     | true =>
      simp only [if_true]
      refine wp_of_out hs hdo (aop_sound (s := ⟨n, tm, H⟩) hs (h1 rfl)) ?_
      rintro r H' a' w' ⟨k1, k2⟩ k3 k4 k5 k6
      refine ih _ _ _ H' a' w' hrf' hlen' hi' hl' k3 (he.trans hf k4) (hf.trans he.size k5) (k6.trans hds) (fun ⟨z, hz, hz1⟩ => ?_) k2
      rcases hty.2 how with e | e
      ·exact (stay how e z (hsub z hz) (hne z hz) hz1).elim
      ·exact k1 e
     | false =>
      simp only [Bool.false_eq_true,if_false]
      exact ⟨fun _ _ => trivial, ih _ _ _ H _ w hrf' hlen' hi' hl' (hs.undef hdo) he hf (hdf _) (fun ⟨z, hz, hz1⟩ => hp ⟨z, hsub z hz, hz1⟩) (h2 rfl)⟩
    | false =>
     have hFy : Comm qs ops.toList tags (F, f) (o, j) ∧ TagsOk qs tags (F, f) := by
      refine ⟨?_, hl.tag (F, f) (by simp)⟩
      have hjf2 : j < f := (List.pairwise_append.1 hl.sorted).2.2 (o, j) (by simp) (F, f) (by simp)
      have hna : anc (ancs ops.toList) j f = false := hF0 j hjs
      rcases hpair j f o F hjf2 ho hFo hna with h | ⟨_, h, _⟩
      ·exact (comm_of htags hjf2 ho hFo hna h).symm
      ·rw [how] at h; cases h
     obtain ⟨g, hg, hv⟩ := T_val (K := K) (qs := qs) (F := (F, f)) (l2 := l2) (y := (o, j)) how pre tm H a w hl.left (fun x hx => (hcomm x hx).1) hs (fun ⟨z, hz, hz1⟩ => hp ⟨z, List.mem_append_left _ hz, hz1⟩) hk
     rw [gA_sound hs hg]
     cases g with
     | true =>
      obtain ⟨r, hr⟩ := hv rfl
      simp only [if_true]
      refine wp_of_out hs hdo (val_out hs (hty.1 how) (fun e => hp ⟨(o, j), by simp, e⟩) hr) ?_
      rintro q H' a' w'' ⟨rfl, rfl⟩ k5 k6 k7 k8
      exact ih _ _ _ _ a' w'' hrf' hlen' hi' hl' k5 (he.trans hf k6) (hf.trans he.size k7) (k8.trans hds) (fun ⟨z, hz, hz1⟩ => hp ⟨z, hsub z hz, hz1⟩)
       (T_pure (y := (o, j)) how hty hFy pre tm _ hcomm hg (fun _ => hr) (fun e => by cases e) hk)
     | false =>
      simp only [Bool.false_eq_true,if_false]
      exact ⟨fun _ _ => trivial, ih _ _ _ H _ w hrf' hlen' hi' hl' (hs.undef hdo) he hf (hdf _) (fun ⟨z, hz, hz1⟩ => hp ⟨z, hsub z hz, hz1⟩)
       (T_pure (y := (o, j)) how hty hFy pre tm H hcomm hg (fun e => by cases e) (fun _ => rfl) hk)⟩
def chkF (qs : List Nat) (f : Nat) (l : List Oper) (t : List (List Nat)) : Bool :=
 ((List.range l.length).all fun j => match l[j]? with
  | some oj => (oj.after.toList.all fun e => !Region.binds .any e || decide (e.on < j)) && ((List.range j).all fun i => anc t i j || (match l[i]? with
   | some oi => commB qs l i oi j oj || ((decide (i = f) || decide (j = f)) && (isWq qs i oi.op && isWq qs j oj.op))
   | none => true))
  | none => true) &&
 ((match l[f]? with
  | some F => isWq qs f F.op
  | none => false) && ((List.range l.length).all (fun i => !anc t i f) && (List.range l.length).all fun j => decide (j ≤ f) || anc t f j))
def tagsF (qs : List Nat) (f : Nat) (l : List Oper) : Option (List Nat) := if chkF qs f l (ancs l) then some ((List.range l.length).map (tagD qs l (ancs l))) else none
theorem wp_float {qs : List Nat} {qv : Nat → AV} {r0 : Option Nat} {ops : Array Oper} {id n f : Nat} {F : Oper} {tags : List Nat} {Hp : AHeap} {K : (Nat → AV) → AHeap → Prop} {tm : Nat → AV} {H : AHeap} (hm : P.follows .mixedOrders = true) (ht : tagsF qs f ops.toList = some tags) (hd : ∀ o ∈ ops.toList, dstOk n o.dst = true) (hFo : ops.toList[f]? = some F)
  (hs : StRel ⟨n, tm, H⟩ a w) (hp : Hp.le H) (hk : aopsT P ops.toList tags qv Hp qs (F, f) (ops.toList.zipIdx.drop (f + 1)) (ops.toList.zipIdx.take f) tm H K) : (Code.region id ops true).wpIn (WF r0) 0 P (Post n H.dom w a.defers K) a w := by
 unfold tagsF at ht
 split at ht
 rotate_left
 ·cases ht
 rename_i hchk
 cases ht
 unfold chkF at hchk
 rw [Bool.and_eq_true, Bool.and_eq_true, Bool.and_eq_true] at hchk
 obtain ⟨c1, c2, c3, c4⟩ := hchk
 have hfs : f < ops.size := by
  rcases Nat.lt_or_ge f ops.toList.length with h | h
  ·simpa using h
  ·rw [List.getElem?_eq_none h] at hFo; cases hFo
 rw [hFo] at c2
 simp only at c2
 have hedge : ∀ j oj, ops[j]? = some oj → ∀ e ∈ oj.after.toList, Region.binds .any e = true → e.on < j := by
  intro j oj hj e he hb
  have hjl : j < ops.toList.length := by have := (Array.getElem?_eq_some_iff.1 hj).1; simpa using this
  rw [List.all_eq_true] at c1
  have h1 := c1 j (by simpa using hjl)
  have hj' : ops.toList[j]? = some oj := by simpa using hj
  rw [hj'] at h1
  simp only [Bool.and_eq_true,List.all_eq_true] at h1
  have h2 := h1.1 e he
  simpa [hb] using h2
 have hpair : ∀ i j oi oj, i < j → ops[i]? = some oi → ops[j]? = some oj → anc (ancs ops.toList) i j = false → commB qs ops.toList i oi j oj = true ∨ ((i = f ∨ j = f) ∧ isWq qs i oi.op = true ∧ isWq qs j oj.op = true) := by
  intro i j oi oj hij hi hj hn
  have hjl : j < ops.toList.length := by have := (Array.getElem?_eq_some_iff.1 hj).1; simpa using this
  rw [List.all_eq_true] at c1
  have h1 := c1 j (by simpa using hjl)
  have hj' : ops.toList[j]? = some oj := by simpa using hj
  have hi' : ops.toList[i]? = some oi := by simpa using hi
  rw [hj'] at h1
  simp only [Bool.and_eq_true,List.all_eq_true] at h1
  have h2 := h1.2 i (by simpa using hij)
  rw [hi', hn] at h2
  simpa using h2
 have htags : ∀ i, i < ops.size → ((List.range ops.toList.length).map (tagD qs ops.toList (ancs ops.toList))).getD i 0 = tagD qs ops.toList (ancs ops.toList) i := by
  intro i hi
  simp [List.getD, hi]
 have hze : ∀ x ∈ ops.toList.zipIdx, ops[x.2]? = some x.1 := by
  intro x hx
  have := List.mem_zipIdx_iff_getElem?.1 hx
  simpa using this
 have hs' : StRel ⟨n, tm, H⟩ a w.drew := ⟨hs.defers.step (ev_drew _ _) (.refl _ _), hs.n, fun t => (hs.tm t).step (ev_drew _ _) (.refl _ _), hs.heap.keep (ev_drew _ _) (fun _ _ => rfl)⟩
 have hsplit : ops.toList.zipIdx.take f ++ (F, f) :: ops.toList.zipIdx.drop (f + 1) = ops.toList.zipIdx := by
  have hz : ops.toList.zipIdx[f]? = some (F, f) := by rw [List.getElem?_zipIdx, hFo]; simp
  obtain ⟨hzl, hze⟩ := List.getElem?_eq_some_iff.1 hz
  rw [← hze, ← List.drop_eq_getElem_cons hzl, List.take_append_drop]
 have hdi : DInv ops (Array.replicate ops.size false) ops.toList.zipIdx := by
  refine ⟨by simp, fun x hx => ?_, fun i o ho _ => ?_, hze, fun k o hok hlk => ?_⟩
  ·have := (Array.getElem?_eq_some_iff.1 (hze x hx)).1
   simp [Array.getD, this]
  ·exact List.mem_zipIdx_iff_getElem?.2 (by simpa using ho)
  ·exfalso
   have := (Array.getElem?_eq_some_iff.1 hok).1
   simp [Array.getD, this] at hlk
 have hlo : LOk qs n ((List.range ops.toList.length).map (tagD qs ops.toList (ancs ops.toList))) ops.toList.zipIdx := by
  ·refine ⟨fun x hx => hd x.1 (by have := hze x hx; exact List.mem_of_getElem? (by simpa using this)), fun x hx => ?_, fun x hx z hz h2 h1 => ?_, ?_⟩
   ·have hxe := hze x hx
    have hxs := (Array.getElem?_eq_some_iff.1 hxe).1
    have hx' : ops.toList[x.2]? = some x.1 := by simpa using hxe
    unfold TagsOk
    rw [htags x.2 hxs]
    unfold tagD
    rw [hx']
    simp only
    refine ⟨fun e => ?_, fun e => ?_⟩
    ·unfold isLook
     cases hq : isQ qs x.2 x.1.op with
     | true => simp
     | false =>
      have e1 : isW x.1.op = false := by unfold isWq at e; simpa [hq] using e
      simp only [Bool.false_eq_true,if_false,e1]
      split
      ·exact .inr (.inl rfl)
      ·exact .inl rfl
    ·have how1 : isW x.1.op = true := by unfold isWq at e; simp only [Bool.and_eq_true] at e; exact e.1
     have how2 : isQ qs x.2 x.1.op = false := by unfold isWq at e; simp only [Bool.and_eq_true,Bool.not_eq_true'] at e; exact e.2
     rw [how2, if_neg (by simp), if_pos how1]
     split
     ·exact .inl rfl
     ·exact .inr rfl
   ·have hxs := (Array.getElem?_eq_some_iff.1 (hze x hx)).1
    have hzs := (Array.getElem?_eq_some_iff.1 (hze z hz)).1
    have hx' : ops.toList[x.2]? = some x.1 := by have := hze x hx; simpa using this
    have hz' : ops.toList[z.2]? = some z.1 := by have := hze z hz; simpa using this
    rw [htags x.2 hxs] at h2
    rw [htags z.2 hzs] at h1
    have hfz : flagD qs ops.toList (ancs ops.toList) z.2 = true := flag_of hz' h1
    have hall : anc (ancs ops.toList) z.2 x.2 = true := by
     unfold tagD at h2
     rw [hx'] at h2
     simp only at h2
     split at h2
     ·cases h2
     split at h2
     ·split at h2
      ·rename_i hall
       rw [List.all_eq_true] at hall
       have h3 := hall z.2 (by simpa using hzs)
       rw [hfz] at h3
       simpa using h3
      ·cases h2
     ·split at h2 <;> cases h2
    have hlt : ∀ k o', ops.toList[k]? = some o' → ∀ e ∈ o'.after.toList, Region.binds .any e = true → e.on < k := fun k o' hk' e hem hb => hedge k o' (by simpa using hk') e hem hb
    exact anc_done (S := fun k => k < x.2) (fun k o' hk' hkx e hem hb => Nat.lt_trans (hlt k o' hk' e hem hb) hkx) hall (fun o' ho' e hem hb => hlt x.2 o' ho' e hem hb)
   ·have h1 : ∀ (l : List Oper) (n : Nat), (l.zipIdx n).Pairwise (fun x y => x.2 < y.2) := by
     intro l
     induction l with
     | nil => intro n; simp
     | cons o l ih =>
      intro n
      rw [List.zipIdx_cons, List.pairwise_cons]
      refine ⟨fun y hy => ?_, ih (n + 1)⟩
      have := List.le_snd_of_mem_zipIdx hy
      simp; omega
    exact h1 ops.toList 0
 have hne : ∀ x ∈ ops.toList.zipIdx.take f ++ ops.toList.zipIdx.drop (f + 1), x.2 ≠ f := by
  intro x hx e
  have hp2 := hlo.sorted
  rw [← hsplit, List.pairwise_append] at hp2
  rw [List.mem_append] at hx
  rcases hx with hx | hx
  ·have := hp2.2.2 x hx (F, f) (by simp)
   simp at this; omega
  ·have := (List.pairwise_cons.1 hp2.2.1).1 x hx
   simp at this; omega
 have hF2 : ((List.range ops.toList.length).map (tagD qs ops.toList (ancs ops.toList))).getD f 0 = 2 ∨ ((List.range ops.toList.length).map (tagD qs ops.toList (ancs ops.toList))).getD f 0 = 3 := (hlo.tag (F, f) (by rw [← hsplit]; simp)).2 c2
 have hl2 : ∀ x ∈ ops.toList.zipIdx.drop (f + 1), anc (ancs ops.toList) f x.2 = true := by
  intro x hx
  have hp2 := hlo.sorted
  rw [← hsplit, List.pairwise_append] at hp2
  have hgt := (List.pairwise_cons.1 hp2.2.1).1 x hx
  have hxs := (Array.getElem?_eq_some_iff.1 (hze x ((List.drop_sublist _ _).subset hx))).1
  rw [List.all_eq_true] at c4
  have := c4 x.2 (by simpa using hxs)
  simp only [Bool.or_eq_true,decide_eq_true_eq] at this
  rcases this with h | h
  ·simp at hgt; omega
  ·exact h
 have hF0 : ∀ i, i < ops.size → anc (ancs ops.toList) i f = false := by
  intro i hi
  rw [List.all_eq_true] at c3
  have := c3 i (by simpa using hi)
  simpa using this
 refine wpIn_region_any hm ?_
 rw [← hsplit] at hdi hlo
 have hlen : (ops.toList.zipIdx.take f ++ (F, f) :: ops.toList.zipIdx.drop (f + 1)).length = ops.size := by rw [hsplit]; simp
 exact draw_float f hedge hpair htags F (by simpa using hFo) c2 hF2 hF0 _ hl2 ops.size _ _ tm H a w.drew hne hlen hdi hlo hs' (ev_drew _ _) (.refl _ _) rfl (fun _ => hp) hk
end
end Go.Sim
