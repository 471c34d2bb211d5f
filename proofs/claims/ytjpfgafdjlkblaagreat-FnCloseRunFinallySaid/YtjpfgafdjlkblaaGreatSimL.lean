/- The calculus: a region that draws its order: every order. No condition. -/
import Derived.Test.YtjpfgafdjlkblaaGreatSimK
namespace Go.Sim
open Go
section
variable {P : Program} {a : Act} {w : World}

theorem out_exists {O : Nat → Prop} {K : AV → AHeap → Prop} {res : Result Next} (h : Out P O w K res) : ∃ r H' v w', K r H' ∧ Rel H'.dom w' r v ∧ HRel H' w' ∧ Ev O w w' ∧ Fresh O H'.dom w := by
  cases h with
  | value r H' v w' h1 h2 h3 h4 h5 => exact ⟨r, H', v, w', h1, h2, h3, h4, h5⟩
  | skip H' w' h1 h3 h4 h5 => exact ⟨_, H', undef, w', h1, .lit _, h3, h4, h5⟩
  | enter f args hc =>
    obtain ⟨e, w', fr, ⟨v, r, H', _, h1, h2, h3, h4, h5⟩, _⟩ := hc []
    exact ⟨r, H', v, w', h1, h2, h3, h4, h5⟩

structure LOk (qs : List Nat) (n : Nat) (tags : List Nat) (l : List (Oper × Nat)) : Prop where
  dst : ∀ x ∈ l, dstOk n x.1.dst = true
  tag : ∀ x ∈ l, TagsOk qs tags x
  late : ∀ x ∈ l, ∀ z ∈ l, tags.getD x.2 0 = 2 → (tags.getD z.2 0 = 1 ∨ tags.getD z.2 0 = 4) → z.2 < x.2
  sorted : l.Pairwise (fun x y => x.2 < y.2)

theorem LOk.tail {qs : List Nat} {n : Nat} {tags : List Nat} {x : Oper × Nat} {l : List (Oper × Nat)} (h : LOk qs n tags (x :: l)) : LOk qs n tags l :=
  ⟨fun y hy => h.dst y (by simp [hy]), fun y hy => h.tag y (by simp [hy]), fun y hy z hz => h.late y (by simp [hy]) z (by simp [hz]), (List.pairwise_cons.1 h.sorted).2⟩

theorem val_out {n : Nat} {tm : Nat → AV} {Hp H : AHeap} {o : Oper} {t : Nat} {v r : AV} (hs : StRel ⟨n, tm, H⟩ a w) (ht : isLook t) (hp : t = 1 ∨ t = 4 → Hp.le H) (h : Val P Hp H t v tm o.op r) :
    Out P H.dom w (fun q H' => q = r ∧ H' = H) ((execOp a.eval o).run P w) := by
  have pur : ∀ {G : AHeap}, G.le H → pureA P G tm o.op = some r → Out P H.dom w (fun q H' => q = r ∧ H' = H) ((execOp a.eval o).run P w) := by
    intro G hle hr
    obtain ⟨v, w', k1, k2, k3, k4⟩ := pureA_sound (s := ⟨n, tm, H⟩) hs hle hr
    rw [k1]; exact .value r H v w' ⟨rfl, rfl⟩ k2 k3 k4 (.refl _ _)
  rcases ht with rfl | rfl | rfl
  · exact pur (AHeap.le_refl H) h
  · exact pur (hp (.inl rfl)) h
  · obtain ⟨hq, rfl⟩ := h
    refine aop_sound (s := ⟨n, tm, H⟩) (K := fun q H' => q = r ∧ H' = H) hs ?_
    generalize o.op = op at hq
    cases op with
    | call c =>
      obtain ⟨callee, args, ts⟩ := c
      cases callee with
      | value f =>
        simp only [quietO, quietC] at hq
        simp only [aop]
        split at hq
        · rename_i g first caps e
          simp only [e]
          exact hq H (hp (.inr rfl))
        · exact hq.elim
      | _ => exact hq.elim
    | _ => exact hq.elim

theorem extract_val {qs : List Nat} {qv : Nat → AV} {ops : Array Oper} {n : Nat} {tags : List Nat} {Hp : AHeap} {K : (Nat → AV) → AHeap → Prop} {y : Oper × Nat} (hyw : isWq qs y.2 y.1.op = false) {post : List (Oper × Nat)} :
    ∀ (pre : List (Oper × Nat)) (tm : Nat → AV) (H : AHeap) (a : Act) (w : World), LOk qs n tags (pre ++ y :: post) → (∀ x ∈ pre, Comm qs ops.toList tags x y) → StRel ⟨n, tm, H⟩ a w →
    ((∃ x ∈ pre ++ y :: post, tags.getD x.2 0 = 1 ∨ tags.getD x.2 0 = 4) → Hp.le H) → aopsD P ops.toList tags qv Hp (pre ++ y :: post) tm H K →
    ∃ g, gA ops.toList tm y.1.guard = some g ∧ (g = true → ∃ r, Val P Hp H (tags.getD y.2 0) (qvd qv y.1.dst) tm y.1.op r) := by
  intro pre
  induction pre with
  | nil =>
    intro tm H a w hl _ hs hp hk
    simp only [List.nil_append] at hk hl
    unfold aopsD at hk
    cases hg : gA ops.toList tm y.1.guard with
    | none => rw [hg] at hk; exact hk.elim
    | some g =>
      rw [hg] at hk
      refine ⟨g, rfl, fun e => ?_⟩
      obtain ⟨r, h1, _⟩ := (stepD_val ((hl.tag y (by simp)).1 hyw)).1 (hk.1 e)
      exact ⟨r, h1⟩
  | cons x pre ih =>
    intro tm H a w hl hc hs hp hk
    have hcx := hc x (by simp)
    simp only [List.cons_append] at hk hl hp
    have htx := hl.tag x (by simp)
    have hty := hl.tag y (by simp)
    have hdx := hl.dst x (by simp)
    unfold aopsD at hk
    cases hgx : gA ops.toList tm x.1.guard with
    | none => rw [hgx] at hk; exact hk.elim
    | some gx =>
      rw [hgx] at hk
      simp only at hk
      have fin : ∀ (q : AV) (H' : AHeap) (a' : Act) (w' : World), (isWq qs x.2 x.1.op = false → H' = H) → StRel ⟨n, updO tm x.1.dst q, H'⟩ a' w' → ((∃ z ∈ pre ++ y :: post, tags.getD z.2 0 = 1 ∨ tags.getD z.2 0 = 4) → Hp.le H') →
          aopsD P ops.toList tags qv Hp (pre ++ y :: post) (updO tm x.1.dst q) H' K → ∃ g, gA ops.toList tm y.1.guard = some g ∧ (g = true → ∃ r, Val P Hp H (tags.getD y.2 0) (qvd qv y.1.dst) tm y.1.op r) := by
        intro q H' a' w' hH hs' hp' hk'
        obtain ⟨g, h1, h2⟩ := ih _ H' a' w' hl.tail (fun z hz => hc z (by simp [hz])) hs' hp' hk'
        rw [gA_upd hcx.a1] at h1
        refine ⟨g, h1, fun e => ?_⟩
        obtain ⟨r, hr⟩ := h2 e
        exact ⟨r, (val_same hcx hH (hty.1 hyw)).1 hr⟩
      cases gx with
      | false => exact fin _ H _ w (fun _ => rfl) (hs.undef hdx) (fun ⟨z, hz, hz1⟩ => hp ⟨z, by simp [hz], hz1⟩) (hk.2 rfl)
      | true =>
        have h1 := hk.1 rfl
        cases hxw : isWq qs x.2 x.1.op with
        | true =>
          rw [stepD_w (htx.2 hxw)] at h1
          obtain ⟨q, H', v, w', ⟨k1, k2⟩, k3, k4, k5, k6⟩ := out_exists (aop_sound (s := ⟨n, tm, H⟩) hs h1)
          refine fin q H' _ w' (fun e => by rw [hxw] at e; cases e) (hs.put (s := ⟨n, tm, H⟩) hdx k5 k6 k3 k4) (fun ⟨z, hz, hz1⟩ => ?_) k2
          rcases htx.2 hxw with e | e
          · exfalso
            have hlt := hl.late x (by simp) z (by simp [hz]) e hz1
            have hgt := (List.pairwise_cons.1 hl.sorted).1 z hz
            omega
          · exact k1 e
        | false =>
          obtain ⟨q, h2, h3⟩ := (stepD_val (htx.1 hxw)).1 h1
          have hout := val_out hs (htx.1 hxw) (fun e => hp ⟨x, by simp, e⟩) h2
          obtain ⟨q', H', v, w', ⟨rfl, rfl⟩, k2, k3, k4, k5⟩ := out_exists hout
          exact fin q' H' _ w' (fun _ => rfl) (hs.put (s := ⟨n, tm, H'⟩) hdx k4 k5 k2 k3) (fun ⟨z, hz, hz1⟩ => hp ⟨z, by simp [hz], hz1⟩) h3

theorem flag_of {qs : List Nat} {l : List Oper} {t : List (List Nat)} {i : Nat} {o : Oper} (ho : l[i]? = some o) (h : tagD qs l t i = 1 ∨ tagD qs l t i = 4) : flagD qs l t i = true := by
  have hq : isQ qs i o.op = true → flagD qs l t i = true := fun e => by unfold flagD; rw [ho]; simp [e]
  unfold tagD at h
  rw [ho] at h
  simp only at h
  split at h
  · rename_i e; exact hq e
  · split at h
    · split at h <;> rcases h with h | h <;> cases h
    · split at h
      · assumption
      · rcases h with h | h <;> cases h

structure DInv (ops : Array Oper) (listed : Array Bool) (rem : List (Oper × Nat)) : Prop where
  size : listed.size = ops.size
  left : ∀ x ∈ rem, listed.getD x.2 true = false
  mem : ∀ i o, ops[i]? = some o → listed.getD i true = false → (o, i) ∈ rem
  entry : ∀ x ∈ rem, ops[x.2]? = some x.1
  down : ∀ k o, ops[k]? = some o → listed.getD k false = true → ∀ e ∈ o.after.toList, Region.binds .any e = true → listed.getD e.on false = true

theorem getD_flip {listed : Array Bool} {i : Nat} (hi : i < listed.size) : (listed.getD i true = false) ↔ ¬ listed.getD i false = true := by
  simp [Array.getD, hi]

theorem draw_any {qs : List Nat} {qv : Nat → AV} {r0 : Option Nat} {ds : List Deferred} {ops : Array Oper} {n : Nat} {tags : List Nat} {Hp : AHeap} {O0 : Nat → Prop} {w0 : World} {K : (Nat → AV) → AHeap → Prop} (hchk : chkD qs ops.toList (ancs ops.toList) = true)
    (htags : ∀ i, i < ops.size → tags.getD i 0 = tagD qs ops.toList (ancs ops.toList) i) :
    ∀ (fuel : Nat) (listed : Array Bool) (rem : List (Oper × Nat)) (tm : Nat → AV) (H : AHeap) (a : Act) (w : World), rem.length = fuel → DInv ops listed rem → LOk qs n tags rem → StRel ⟨n, tm, H⟩ a w →
    Ev O0 w0 w → Fresh O0 H.dom w0 → a.defers = ds → ((∃ x ∈ rem, tags.getD x.2 0 = 1 ∨ tags.getD x.2 0 = 4) → Hp.le H) → aopsD P ops.toList tags qv Hp rem tm H K → wpAnyIn (WF r0) 0 P .any ops (Post n O0 w0 ds K) fuel listed a w := by
  have hedge : ∀ j oj, ops[j]? = some oj → ∀ e ∈ oj.after.toList, Region.binds .any e = true → e.on < j := by
    intro j oj hj e he hb
    have hjl : j < ops.toList.length := by have := (Array.getElem?_eq_some_iff.1 hj).1; simpa using this
    unfold chkD at hchk
    rw [List.all_eq_true] at hchk
    have h1 := hchk j (by simpa using hjl)
    have hj' : ops.toList[j]? = some oj := by simpa using hj
    rw [hj'] at h1
    simp only [Bool.and_eq_true, List.all_eq_true] at h1
    have h2 := h1.1 e he
    simpa [hb] using h2
  have hpair : ∀ i j oi oj, i < j → ops[i]? = some oi → ops[j]? = some oj → anc (ancs ops.toList) i j = false → commB qs ops.toList i oi j oj = true := by
    intro i j oi oj hij hi hj hn
    have hjl : j < ops.toList.length := by have := (Array.getElem?_eq_some_iff.1 hj).1; simpa using this
    unfold chkD at hchk
    rw [List.all_eq_true] at hchk
    have h1 := hchk j (by simpa using hjl)
    have hj' : ops.toList[j]? = some oj := by simpa using hj
    have hi' : ops.toList[i]? = some oi := by simpa using hi
    rw [hj'] at h1
    simp only [Bool.and_eq_true, List.all_eq_true] at h1
    have h2 := h1.2 i (by simpa using hij)
    rw [hi', hn] at h2
    simpa using h2
  intro fuel
  induction fuel with
  | zero =>
    intro listed rem tm H a w hlen hi _ hs he hf hds _ hk
    have hr : rem = [] := List.eq_nil_of_length_eq_zero hlen
    subst hr
    refine ⟨?_, rfl, tm, H, hk, hs, he, hf, hds⟩
    rw [List.eq_nil_iff_forall_not_mem]
    intro j hj
    rw [mem_ready] at hj
    obtain ⟨h0, o, ho, _⟩ := hj
    have := hi.mem j o ho h0
    simp at this
  | succ fuel ih =>
    intro listed rem tm H a w hlen hi hl hs he hf hds hp hk
    refine ⟨fun hnil => ?_, fun j hj => ?_⟩
    · exfalso
      cases rem with
      | nil => simp at hlen
      | cons x rem =>
        have hx : x.2 ∈ Region.ready .any ops listed := by
          rw [mem_ready]
          refine ⟨hi.left x (by simp), x.1, hi.entry x (by simp), fun e hem hb => ?_⟩
          have hlt := hedge x.2 x.1 (hi.entry x (by simp)) e (by simpa using hem) hb
          have hxs := (Array.getElem?_eq_some_iff.1 (hi.entry x (by simp))).1
          have hes : e.on < listed.size := by rw [hi.size]; omega
          by_cases hle : listed.getD e.on false = true
          · exact hle
          · exfalso
            have h0 := (getD_flip hes).2 hle
            obtain ⟨oe, hoe⟩ : ∃ oe, ops[e.on]? = some oe := ⟨ops[e.on]'(by omega), by rw [Array.getElem?_eq_getElem (by omega)]⟩
            have hm := hi.mem e.on oe hoe h0
            rw [List.mem_cons] at hm
            rcases hm with hm | hm
            · rw [← hm] at hlt; simp at hlt
            · have := (List.pairwise_cons.1 hl.sorted).1 _ hm
              simp at this; omega
        rw [hnil] at hx
        simp at hx
    · have hjr := hj
      rw [mem_ready] at hj
      obtain ⟨h0, o, ho, hpred⟩ := hj
      have hmem := hi.mem j o ho h0
      obtain ⟨pre, post, hrem⟩ := List.append_of_mem hmem
      subst hrem
      have hjs := (Array.getElem?_eq_some_iff.1 ho).1
      have hS : ∀ k o', ops.toList[k]? = some o' → listed.getD k false = true → ∀ e ∈ o'.after.toList, Region.binds .any e = true → listed.getD e.on false = true := fun k o' hk' hlk e hem hb => hi.down k o' (by simpa using hk') hlk e hem hb
      have hanc : ∀ i, anc (ancs ops.toList) i j = true → listed.getD i false = true := fun i hia =>
        anc_done (S := fun k => listed.getD k false = true) hS hia (fun o' ho' e hem hb => by
          have : o' = o := by
            have h1 : ops[j]? = some o' := by simpa using ho'
            rw [ho] at h1; cases h1; rfl
          subst this
          exact hpred e (by simpa using hem) hb)
      have hnot : ∀ x ∈ pre ++ (o, j) :: post, ¬ listed.getD x.2 false = true := by
        intro x hx
        have hxs := (Array.getElem?_eq_some_iff.1 (hi.entry x hx)).1
        exact (getD_flip (by rw [hi.size]; exact hxs)).1 (hi.left x hx)
      have hcomm : ∀ x ∈ pre, Comm qs ops.toList tags x (o, j) := by
        intro x hx
        have hlt : x.2 < j := by
          have := List.pairwise_append.1 hl.sorted
          exact this.2.2 x hx (o, j) (by simp)
        have hxe := hi.entry x (by simp [hx])
        have hxs := (Array.getElem?_eq_some_iff.1 hxe).1
        have hna : anc (ancs ops.toList) x.2 j = false := by
          cases h : anc (ancs ops.toList) x.2 j with
          | false => rfl
          | true => exact absurd (hanc x.2 h) (hnot x (by simp [hx]))
        have hcb := hpair x.2 j x.1 o hlt hxe ho hna
        unfold commB at hcb
        rw [Bool.and_eq_true] at hcb
        obtain ⟨b1, b2, b3⟩ := Oper.apart_spec hcb.1
        have hww : ¬ (isWq qs x.2 x.1.op = true ∧ isWq qs j o.op = true) := by
          intro ⟨e1, e2⟩
          have := hcb.2
          simp [e1, e2] at this
        have hx' : ops.toList[x.2]? = some x.1 := by simpa using hxe
        have ho' : ops.toList[j]? = some o := by simpa using ho
        have tag0 : ∀ i oi k ok, ops.toList[i]? = some oi → ops.toList[k]? = some ok → i < ops.size → k < ops.size → isWq qs k ok.op = true → (if i < k then anc (ancs ops.toList) i k else anc (ancs ops.toList) k i) = false → tags.getD i 0 = 0 → isLd oi.op = false := by
          intro i oi k ok hoi hok his hks hwk hun ht0
          cases hld : isLd oi.op with
          | false => rfl
          | true =>
            exfalso
            have hwi : isW oi.op = false := by
              cases hop : oi.op <;> rw [hop] at hld <;> first | (simp [isLd] at hld; done) | rfl
            have hqi : isQ qs i oi.op = false := by
              cases hop : oi.op <;> rw [hop] at hld <;> first | (simp [isLd] at hld; done) | simp [isQ]
            have hfl : flagD qs ops.toList (ancs ops.toList) i = true := by
              unfold flagD
              rw [hoi]
              simp only [hld, Bool.true_and, hqi, Bool.false_or]
              rw [List.any_eq_true]
              refine ⟨k, by simpa using hks, ?_⟩
              rw [hok]
              simp only [hwk, Bool.true_and, hun, Bool.not_false]
            rw [htags i his] at ht0
            unfold tagD at ht0
            rw [hoi] at ht0
            simp [hwi, hfl, hqi] at ht0
        exact ⟨b1, b2, b3, hww, fun hxw ht0 => tag0 j o x.2 x.1 ho' hx' hjs hxs hxw (by rw [if_neg (by omega)]; exact hna) ht0, fun how ht0 => tag0 x.2 x.1 j o hx' ho' hxs hjs how (by rw [if_pos hlt]; exact hna) ht0⟩
      have hty := hl.tag (o, j) (by simp)
      have hdo : dstOk n o.dst = true := hl.dst (o, j) (by simp)
      have hlen' : (pre ++ post).length = fuel := by simp at hlen ⊢; omega
      have hsub : ∀ x, x ∈ pre ++ post → x ∈ pre ++ (o, j) :: post := by
        intro x hx
        rw [List.mem_append] at hx ⊢
        rcases hx with hx | hx
        · exact .inl hx
        · exact .inr (by simp [hx])
      have hl' : LOk qs n tags (pre ++ post) := ⟨fun x hx => hl.dst x (hsub x hx), fun x hx => hl.tag x (hsub x hx), fun x hx z hz => hl.late x (hsub x hx) z (hsub z hz), by
        have := List.pairwise_append.1 hl.sorted
        refine List.pairwise_append.2 ⟨this.1, (List.pairwise_cons.1 this.2.1).2, fun x hx z hz => this.2.2 x hx z (by simp [hz])⟩⟩
      have hne : ∀ x ∈ pre ++ post, x.2 ≠ j := by
        intro x hx
        have hsp := List.pairwise_append.1 hl.sorted
        rw [List.mem_append] at hx
        rcases hx with hx | hx
        · have := hsp.2.2 x hx (o, j) (by simp)
          simp at this; omega
        · have := (List.pairwise_cons.1 hsp.2.1).1 x hx
          simp at this; omega
      have hi' : DInv ops (listed.setIfInBounds j true) (pre ++ post) := by
        refine ⟨by simp [hi.size], fun x hx => ?_, fun i oi hoi hli => ?_, fun x hx => hi.entry x (hsub x hx), fun k ok hok hlk e hem hb => ?_⟩
        · rw [getD_set_ne true (Ne.symm (hne x hx))]; exact hi.left x (hsub x hx)
        · by_cases hij : j = i
          · subst hij
            exfalso
            have hjl : j < listed.size := by rw [hi.size]; exact hjs
            simp [Array.getD, hjl] at hli
          · rw [getD_set_ne true hij] at hli
            have := hi.mem i oi hoi hli
            rw [List.mem_append, List.mem_cons] at this
            rw [List.mem_append]
            rcases this with h | h | h
            · exact .inl h
            · cases h; exact absurd rfl hij
            · exact .inr h
        · by_cases hkj : j = k
          · subst hkj
            have : ok = o := by rw [ho] at hok; cases hok; rfl
            subst this
            exact getD_set_true (hpred e (by simpa using hem) hb)
          · rw [getD_set_ne false hkj] at hlk
            exact getD_set_true (hi.down k ok hok hlk e hem hb)
      have hdf : ∀ v, (a.put o.dst v).defers = ds := fun v => by rw [← hds]; cases o.dst <;> rfl
      unfold wpOpIn
      rw [ho]
      simp only
      cases how : isWq qs j o.op with
      | true =>
        obtain ⟨g, hg, h1, h2⟩ := ahead_w (K := K) (y := (o, j)) how hty pre tm H (fun x hx => ⟨hcomm x hx, hl.tag x (by simp [hx])⟩) hk
        rw [gA_sound hs hg]
        cases g with
        | true =>
          simp only [if_true]
          refine wp_of_out hs hdo (aop_sound (s := ⟨n, tm, H⟩) hs (h1 rfl)) ?_
          rintro r H' a' w' ⟨k1, k2⟩ k3 k4 k5 k6
          refine ih _ _ _ H' a' w' hlen' hi' hl' k3 (he.trans hf k4) (hf.trans he.size k5) (k6.trans hds) (fun ⟨z, hz, hz1⟩ => ?_) k2
          rcases hty.2 how with e | e
          · exfalso
            have hzs := (Array.getElem?_eq_some_iff.1 (hi.entry z (hsub z hz))).1
            have ho' : ops.toList[j]? = some o := by simpa using ho
            have hz' : ops.toList[z.2]? = some z.1 := by have := hi.entry z (hsub z hz); simpa using this
            rw [htags j hjs] at e
            unfold tagD at e
            rw [ho'] at e
            have how1 : isW o.op = true := by unfold isWq at how; simp only [Bool.and_eq_true] at how; exact how.1
            have how2 : isQ qs j o.op = false := by unfold isWq at how; simp only [Bool.and_eq_true, Bool.not_eq_true'] at how; exact how.2
            simp only [how1, how2, if_true, Bool.false_eq_true, if_false] at e
            split at e
            · rename_i hall
              rw [List.all_eq_true] at hall
              have h3 := hall z.2 (by simpa using hzs)
              rw [htags z.2 hzs] at hz1
              have hfz : flagD qs ops.toList (ancs ops.toList) z.2 = true := flag_of hz' hz1
              rw [hfz] at h3
              simp only [Bool.not_true, Bool.false_or] at h3
              exact hnot z (hsub z hz) (hanc z.2 h3)
            · cases e
          · exact k1 e
        | false =>
          simp only [Bool.false_eq_true, if_false]
          exact ⟨fun _ _ => trivial, ih _ _ _ H _ w hlen' hi' hl' (hs.undef hdo) he hf (hdf _) (fun ⟨z, hz, hz1⟩ => hp ⟨z, hsub z hz, hz1⟩) (h2 rfl)⟩
      | false =>
        obtain ⟨g, hg, hv⟩ := extract_val (K := K) (qs := qs) (y := (o, j)) how pre tm H a w hl hcomm hs hp hk
        rw [gA_sound hs hg]
        cases g with
        | true =>
          obtain ⟨r, hr⟩ := hv rfl
          simp only [if_true]
          refine wp_of_out hs hdo (val_out hs (hty.1 how) (fun e => hp ⟨(o, j), by simp, e⟩) hr) ?_
          rintro q H' a' w'' ⟨rfl, rfl⟩ k5 k6 k7 k8
          exact ih _ _ _ _ a' w'' hlen' hi' hl' k5 (he.trans hf k6) (hf.trans he.size k7) (k8.trans hds) (fun ⟨z, hz, hz1⟩ => hp ⟨z, hsub z hz, hz1⟩)
            (ahead_pure (y := (o, j)) how hty pre tm _ (fun x hx => ⟨hcomm x hx, hl.tag x (by simp [hx])⟩) hg (fun _ => hr) (fun e => by cases e) hk)
        | false =>
          simp only [Bool.false_eq_true, if_false]
          exact ⟨fun _ _ => trivial, ih _ _ _ H _ w hlen' hi' hl' (hs.undef hdo) he hf (hdf _) (fun ⟨z, hz, hz1⟩ => hp ⟨z, hsub z hz, hz1⟩)
            (ahead_pure (y := (o, j)) how hty pre tm H (fun x hx => ⟨hcomm x hx, hl.tag x (by simp [hx])⟩) hg (fun e => by cases e) (fun _ => rfl) hk)⟩

theorem wp_draw {qs : List Nat} {qv : Nat → AV} {r0 : Option Nat} {ops : Array Oper} {id n : Nat} {tags : List Nat} {Hp : AHeap} {K : (Nat → AV) → AHeap → Prop} {tm : Nat → AV} {H : AHeap} (hm : P.follows .mixedOrders = true) (ht : tagsOfQ qs ops.toList = some tags) (hd : ∀ o ∈ ops.toList, dstOk n o.dst = true)
    (hs : StRel ⟨n, tm, H⟩ a w) (hp : Hp.le H) (hk : aopsD P ops.toList tags qv Hp ops.toList.zipIdx tm H K) : (Code.region id ops true).wpIn (WF r0) 0 P (Post n H.dom w a.defers K) a w := by
  unfold tagsOfQ at ht
  split at ht
  · rename_i hchk
    cases ht
    have htags : ∀ i, i < ops.size → ((List.range ops.toList.length).map (tagD qs ops.toList (ancs ops.toList))).getD i 0 = tagD qs ops.toList (ancs ops.toList) i := by
      intro i hi
      simp [List.getD, hi]
    have hze : ∀ x ∈ ops.toList.zipIdx, ops[x.2]? = some x.1 := by
      intro x hx
      have := List.mem_zipIdx_iff_getElem?.1 hx
      simpa using this
    have hs' : StRel ⟨n, tm, H⟩ a w.drew := ⟨hs.defers.step (ev_drew _ _) (.refl _ _), hs.n, fun t => (hs.tm t).step (ev_drew _ _) (.refl _ _), hs.heap.keep (ev_drew _ _) (fun _ _ => rfl)⟩
    refine wpIn_region_any hm ?_
    refine draw_any hchk htags ops.size _ ops.toList.zipIdx tm H a w.drew (by simp) ?_ ?_ hs' (ev_drew _ _) (.refl _ _) rfl (fun _ => hp) hk
    · refine ⟨by simp, fun x hx => ?_, fun i o ho _ => ?_, hze, fun k o hok hlk => ?_⟩
      · have := (Array.getElem?_eq_some_iff.1 (hze x hx)).1
        simp [Array.getD, this]
      · exact List.mem_zipIdx_iff_getElem?.2 (by simpa using ho)
      · exfalso
        have := (Array.getElem?_eq_some_iff.1 hok).1
        simp [Array.getD, this] at hlk
    · refine ⟨fun x hx => hd x.1 (by have := hze x hx; exact List.mem_of_getElem? (by simpa using this)), fun x hx => ?_, fun x hx z hz h2 h1 => ?_, ?_⟩
      · have hxe := hze x hx
        have hxs := (Array.getElem?_eq_some_iff.1 hxe).1
        have hx' : ops.toList[x.2]? = some x.1 := by simpa using hxe
        unfold TagsOk
        rw [htags x.2 hxs]
        unfold tagD
        rw [hx']
        simp only
        refine ⟨fun e => ?_, fun e => ?_⟩
        · unfold isLook
          cases hq : isQ qs x.2 x.1.op with
          | true => simp
          | false =>
            have e1 : isW x.1.op = false := by unfold isWq at e; simpa [hq] using e
            simp only [Bool.false_eq_true, if_false, e1]
            split
            · exact .inr (.inl rfl)
            · exact .inl rfl
        · have how1 : isW x.1.op = true := by unfold isWq at e; simp only [Bool.and_eq_true] at e; exact e.1
          have how2 : isQ qs x.2 x.1.op = false := by unfold isWq at e; simp only [Bool.and_eq_true, Bool.not_eq_true'] at e; exact e.2
          rw [how2, if_neg (by simp), if_pos how1]
          split
          · exact .inl rfl
          · exact .inr rfl
      · have hxs := (Array.getElem?_eq_some_iff.1 (hze x hx)).1
        have hzs := (Array.getElem?_eq_some_iff.1 (hze z hz)).1
        have hx' : ops.toList[x.2]? = some x.1 := by have := hze x hx; simpa using this
        have hz' : ops.toList[z.2]? = some z.1 := by have := hze z hz; simpa using this
        rw [htags x.2 hxs] at h2
        rw [htags z.2 hzs] at h1
        have hfz : flagD qs ops.toList (ancs ops.toList) z.2 = true := flag_of hz' h1
        have hall : anc (ancs ops.toList) z.2 x.2 = true := by
          unfold tagD at h2
          rw [hx'] at h2
          simp only at h2
          split at h2
          · cases h2
          split at h2
          · split at h2
            · rename_i hall
              rw [List.all_eq_true] at hall
              have h3 := hall z.2 (by simpa using hzs)
              rw [hfz] at h3
              simpa using h3
            · cases h2
          · split at h2 <;> cases h2
        have hlt : ∀ k o', ops.toList[k]? = some o' → ∀ e ∈ o'.after.toList, Region.binds .any e = true → e.on < k := by
          intro k o' hk' e hem hb
          have hkl : k < ops.toList.length := by rcases Nat.lt_or_ge k ops.toList.length with h | h; exact h; simp [List.getElem?_eq_none h] at hk'
          have hc := hchk
          unfold chkD at hc
          rw [List.all_eq_true] at hc
          have h3 := hc k (by simpa using hkl)
          rw [hk'] at h3
          simp only [Bool.and_eq_true, List.all_eq_true] at h3
          have h4 := h3.1 e hem
          simpa [hb] using h4
        exact anc_done (S := fun k => k < x.2) (fun k o' hk' hkx e hem hb => Nat.lt_trans (hlt k o' hk' e hem hb) hkx) hall (fun o' ho' e hem hb => hlt x.2 o' ho' e hem hb)
      · have h1 : ∀ (l : List Oper) (n : Nat), (l.zipIdx n).Pairwise (fun x y => x.2 < y.2) := by
          intro l
          induction l with
          | nil => intro n; simp
          | cons o l ih =>
            intro n
            rw [List.zipIdx_cons, List.pairwise_cons]
            refine ⟨fun y hy => ?_, ih (n + 1)⟩
            have := List.le_snd_of_mem_zipIdx hy
            simp; omega
        exact h1 ops.toList 0
  · cases ht

end
end Go.Sim
