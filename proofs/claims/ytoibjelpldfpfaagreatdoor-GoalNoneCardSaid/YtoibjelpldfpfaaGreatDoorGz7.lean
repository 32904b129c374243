/- Part 7 of a proof: the texts MirZC MirZR, one behind the other. -/
import Derived.Test.YtoibjelpldfpfaaGreatDoorGz6
namespace Go.Proofs.YtoibjelpldfpfaaGreatDoor.Mir
open Go Go.RowKit
noncomputable section
section
variable {P : Program} {E : Env P}
structure Flt {P : Program} (E : Env P) where
  i : Nat
  d : Option Nat
  x : AV E
def dropT (ds : List Nat) : List (Nat × AV E) → List (Nat × AV E)
  | [] => []
  | (t, x) :: r => match memL ds t with
    | true => dropT ds r
    | false => (t, x) :: dropT ds r
def dstsOf : List Oper → List Nat
  | [] => []
  | o :: r => match o.dst with
    | some d => d :: dstsOf r
    | none => dstsOf r
def nodupB : List Nat → Bool
  | [] => true
  | d :: r => !(memL r d) && nodupB r
def fltT (D : Nat → Bool) : List (Flt E) → List (Nat × AV E)
  | [] => []
  | f :: r => match D f.i, f.d with
    | true, some d => (d, f.x) :: fltT D r
    | _, _ => fltT D r
def bigId : Nat := 1000000000000000000
def hasFlt (fl : List (Flt E)) (j : Nat) : Bool := fl.any fun f => Nat.beq f.i j
def fltOf (O : Oracle E) (ops : Array Oper) (n : Nat) (tm0 : List (Nat × AV E)) (o : Oper) (fl : List (Flt E)) : Option (AV E) := match (predL o).all (hasFlt fl) with
  | true => (match evG O ops ⟨n, fltT (memL (predL o)) fl ++ tm0, [], bigId⟩ o with
    | some ⟨true, v, none, none⟩ => some v
    | _ => none)
  | false => none
def clsGo (O : Oracle E) (ops : Array Oper) (n : Nat) (tm0 : List (Nat × AV E)) : List Oper → Nat → List (Flt E) → List (Nat × Oper) → List (Flt E) × List (Nat × Oper)
  | [], _, fl, N => (fl, N.reverse)
  | o :: r, i, fl, N => match fltOf O ops n tm0 o fl with
    | some x => clsGo O ops n tm0 r (i + 1) (⟨i, o.dst, x⟩ :: fl) N
    | none => clsGo O ops n tm0 r (i + 1) fl ((i, o) :: N)
def befB (l : List Oper) : Nat → Nat → Nat → Bool
  | 0, _, _ => false
  | f + 1, i, h => match l[i]? with
    | some o => (predL o).any fun j => Nat.beq j h || befB l f j h
    | none => false
def chOk (l : List Oper) : List (Nat × Oper) → Bool
  | p :: q :: r => befB l l.length q.1 p.1 && chOk l (q :: r)
  | _ => true
def plainL (n : Nat) (l : List Oper) : Bool := l.all fun o => (match o.guard with | none => true | some _ => false) && dstR n o.dst
def chRun {R : Type} (O : Oracle E) (ops : Array Oper) (n : Nat) (FL : List (Flt E)) : List (Nat × Oper) → List (Nat × AV E) → List (Nat × AObj E) → Nat → (ASt E → Option R) → Option R
  | [], tm, objs, next, k => (match Nat.ble next bigId with
    | true => k ⟨n, fltT (fun _ => true) FL ++ tm, objs, next⟩
    | false => none)
  | (_, o) :: rest, tm, objs, next, k => (match Nat.ble next bigId with
    | true => (match inlOf O.inl ⟨n, fltT (memL (predL o)) FL ++ tm, objs, next⟩ o with
      | some (f, args) => O.inl.run f args objs next fun v objs' next' => (match isCond v with
        | true => none
        | false => chRun O ops n FL rest (putL o.dst v tm) objs' next' k)
      | none => (match evG O ops ⟨n, fltT (memL (predL o)) FL ++ tm, objs, next⟩ o with
        | some r => (match r.ok with
          | true => frcV r.v fun v => frcN (next + 1) fun nx => chRun O ops n FL rest (putL o.dst v tm) (putO objs next r) nx k
          | false => none)
        | none => none))
    | false => none)
def evChain {R : Type} (O : Oracle E) (ops : Array Oper) (S : ASt E) (k : ASt E → Option R) : Option R := match clsGo O ops S.n (dropT (dstsOf ops.toList) S.tmps) ops.toList 0 [] [] with
  | (FL, NL) => (match plainL S.n ops.toList && (nodupB (dstsOf ops.toList) && (acyGo ops.size ops.toList 0 && chOk ops.toList NL)) with
    | true => chRun O ops S.n FL NL (dropT (dstsOf ops.toList) S.tmps) S.objs S.next k
    | false => none)
theorem look_dropT {ds : List Nat} : ∀ {l : List (Nat × AV E)} {t : Nat} {x : AV E}, look (dropT ds l) t = some x → look l t = some x ∧ memL ds t = false
  | [], t, x, h => by cases h
  | (t', y) :: r, t, x, h => by
    unfold dropT at h
    cases hm : memL ds t' with
    | true =>
      rw [hm] at h
      obtain ⟨h1, h2⟩ := look_dropT h
      refine ⟨?_, h2⟩
      rw [look_cons]
      split
      · rename_i hb
        have := Nat.eq_of_beq_eq_true hb
        subst this
        rw [hm] at h2; cases h2
      · exact h1
    | false =>
      rw [hm] at h
      simp only [look_cons] at h ⊢
      split at h
      · rename_i hb
        have := Nat.eq_of_beq_eq_true hb
        subst this
        rw [if_pos hb]
        exact ⟨h, hm⟩
      · rename_i hb
        rw [if_neg hb]
        exact look_dropT h
theorem nc_dropT {ds : List Nat} : ∀ {l : List (Nat × AV E)}, NoCond l → NoCond (dropT ds l)
  | [], h => h
  | (t', y) :: r, h => by
    have hr : NoCond r := fun p hp => h p (List.mem_cons_of_mem _ hp)
    unfold dropT
    split
    · exact nc_dropT hr
    · intro p hp
      cases hp with
      | head => exact h _ List.mem_cons_self
      | tail _ hp => exact nc_dropT hr p hp
theorem look_fltT {D : Nat → Bool} : ∀ {fl : List (Flt E)} {t : Nat} {x : AV E}, look (fltT D fl) t = some x → ∃ f ∈ fl, D f.i = true ∧ f.d = some t ∧ f.x = x
  | [], t, x, h => by cases h
  | f :: r, t, x, h => by
    unfold fltT at h
    split at h
    · rename_i d h1 h2
      simp only [look_cons] at h
      split at h
      · rename_i hb
        have := Nat.eq_of_beq_eq_true hb
        subst this
        cases h
        exact ⟨f, List.mem_cons_self, h1, h2, rfl⟩
      · obtain ⟨g, hg, q⟩ := look_fltT h
        exact ⟨g, List.mem_cons_of_mem _ hg, q⟩
    · obtain ⟨g, hg, q⟩ := look_fltT h
      exact ⟨g, List.mem_cons_of_mem _ hg, q⟩
theorem mem_fltT {D : Nat → Bool} : ∀ {fl : List (Flt E)} {p : Nat × AV E}, p ∈ fltT D fl → ∃ f ∈ fl, f.x = p.2
  | [], p, h => by cases h
  | f :: r, p, h => by
    unfold fltT at h
    split at h
    · cases h with
      | head => exact ⟨f, List.mem_cons_self, rfl⟩
      | tail _ h => obtain ⟨g, hg, q⟩ := mem_fltT h; exact ⟨g, List.mem_cons_of_mem _ hg, q⟩
    · obtain ⟨g, hg, q⟩ := mem_fltT h; exact ⟨g, List.mem_cons_of_mem _ hg, q⟩
theorem dsts_mem : ∀ {l : List Oper} {i : Nat} {o : Oper} {d : Nat}, l[i]? = some o → o.dst = some d → d ∈ dstsOf l
  | [], i, o, d, h, _ => by simp at h
  | p :: r, 0, o, d, h, hd => by
    simp at h; subst h
    unfold dstsOf
    rw [hd]
    exact List.mem_cons_self
  | p :: r, i + 1, o, d, h, hd => by
    have := dsts_mem (l := r) (i := i) (by simpa using h) hd
    unfold dstsOf
    split
    · exact List.mem_cons_of_mem _ this
    · exact this
theorem dsts_uniq : ∀ {l : List Oper}, nodupB (dstsOf l) = true → ∀ {i j : Nat} {o p : Oper} {d : Nat}, l[i]? = some o → l[j]? = some p → o.dst = some d → p.dst = some d → i = j
  | [], _, i, j, o, p, d, h, _, _, _ => by simp at h
  | q :: r, hn, i, j, o, p, d, hi, hj, ho, hp => by
    have key : ∀ {j : Nat} {p : Oper} {d : Nat}, q.dst = some d → r[j]? = some p → p.dst = some d → False := fun h1 h2 h3 => by
      unfold dstsOf at hn
      rw [h1] at hn
      simp only [nodupB, Bool.and_eq_true, Bool.not_eq_true'] at hn
      have := memL_iff.2 (dsts_mem h2 h3)
      rw [hn.1] at this; cases this
    have hr : nodupB (dstsOf r) = true := by
      unfold dstsOf at hn
      split at hn
      · simp only [nodupB, Bool.and_eq_true] at hn; exact hn.2
      · exact hn
    cases i with
    | zero =>
      simp at hi; subst hi
      cases j with
      | zero => rfl
      | succ j => exact (key ho (by simpa using hj) hp).elim
    | succ i =>
      cases j with
      | zero => simp at hj; subst hj; exact (key hp (by simpa using hi) ho).elim
      | succ j => rw [dsts_uniq hr (i := i) (j := j) (by simpa using hi) (by simpa using hj) ho hp]
theorem befB_sound {l : List Oper} {D : Nat → Bool} (hD : ∀ i o, l[i]? = some o → D i = true → ∀ j ∈ predL o, D j = true) : ∀ (f i h : Nat), befB l f i h = true → (∀ o, l[i]? = some o → ∀ j ∈ predL o, D j = true) → D h = true
  | 0, _, _, h, _ => by cases h
  | f + 1, i, h, hb, hi => by
    unfold befB at hb
    split at hb
    · rename_i o ho
      rw [List.any_eq_true] at hb
      obtain ⟨j, hj, hb⟩ := hb
      have hDj := hi o ho j hj
      rw [Bool.or_eq_true] at hb
      rcases hb with hb | hb
      · have := Nat.eq_of_beq_eq_true hb
        subst this
        exact hDj
      · exact befB_sound hD f j h hb fun p hp => hD j p hp hDj
    · cases hb
theorem chOk_at {l : List Oper} : ∀ {N : List (Nat × Oper)}, chOk l N = true → ∀ {pre post : List (Nat × Oper)} {p q : Nat × Oper}, N = pre ++ p :: q :: post → befB l l.length q.1 p.1 = true
  | N, h, [], post, p, q, e => by
    subst e
    simp only [List.nil_append, chOk, Bool.and_eq_true] at h
    exact h.1
  | N, h, [x], post, p, q, e => by
    subst e
    simp only [List.cons_append, List.nil_append, chOk, Bool.and_eq_true] at h
    exact h.2.1
  | N, h, x :: y :: pre, post, p, q, e => by
    subst e
    simp only [List.cons_append, chOk, Bool.and_eq_true] at h
    exact chOk_at (N := y :: (pre ++ p :: q :: post)) h.2 (pre := y :: pre) (post := post) (by simp)
def FltOk (O : Oracle E) (ops : Array Oper) (n : Nat) (tm0 : List (Nat × AV E)) (FL : List (Flt E)) (f : Flt E) : Prop :=
  ∃ o env, ops[f.i]? = some o ∧ f.d = o.dst ∧ (∀ t x, look env t = some x → ∃ g ∈ FL, g.i ∈ predL o ∧ g.d = some t ∧ g.x = x) ∧ evG O ops ⟨n, env ++ tm0, [], bigId⟩ o = some ⟨true, f.x, none, none⟩
theorem FltOk.mono {O : Oracle E} {ops : Array Oper} {n : Nat} {tm0 : List (Nat × AV E)} {FL FL' : List (Flt E)} {f : Flt E} (h : FltOk O ops n tm0 FL f) (hs : ∀ g ∈ FL, g ∈ FL') : FltOk O ops n tm0 FL' f := by
  obtain ⟨o, env, h1, h2, h3, h4⟩ := h
  exact ⟨o, env, h1, h2, fun t x hl => by obtain ⟨g, hg, q⟩ := h3 t x hl; exact ⟨g, hs g hg, q⟩, h4⟩
structure ClsOk (O : Oracle E) (ops : Array Oper) (n : Nat) (tm0 : List (Nat × AV E)) (i : Nat) (fl : List (Flt E)) (N : List (Nat × Oper)) : Prop where
  f : ∀ f ∈ fl, FltOk O ops n tm0 fl f
  n : ∀ p ∈ N, ops[p.1]? = some p.2
  all : ∀ j, j < i → (∃ f ∈ fl, f.i = j) ∨ ∃ p ∈ N, p.1 = j
  flt : ∀ f ∈ fl, f.i < i
  nlt : ∀ p ∈ N, p.1 < i
  fu : ∀ f ∈ fl, ∀ g ∈ fl, f.i = g.i → f = g
  fn : ∀ f ∈ fl, ∀ p ∈ N, f.i ≠ p.1
  nu : (N.map (·.1)).Nodup
theorem clsGo_sound {O : Oracle E} {ops : Array Oper} {n : Nat} {tm0 : List (Nat × AV E)} : ∀ (rest pre : List Oper) (i : Nat) (fl : List (Flt E)) (N : List (Nat × Oper)), ops.toList = pre ++ rest → pre.length = i → ClsOk O ops n tm0 i fl N →
    ∀ FL NL, clsGo O ops n tm0 rest i fl N = (FL, NL) → ClsOk O ops n tm0 ops.size FL NL
  | [], pre, i, fl, N, hp, hl, c, FL, NL, h => by
    cases h
    have : ops.size = i := by rw [← hl, ← Array.length_toList, hp, List.append_nil]
    rw [this]
    exact ⟨c.f, fun p hp => c.n p (List.mem_reverse.1 hp), fun j hj => by
      rcases c.all j hj with h | ⟨p, hp, q⟩
      · exact .inl h
      · exact .inr ⟨p, List.mem_reverse.2 hp, q⟩, c.flt, fun p hp => c.nlt p (List.mem_reverse.1 hp), c.fu, fun f hf p hp => c.fn f hf p (List.mem_reverse.1 hp), by
      rw [List.map_reverse]; exact List.pairwise_reverse.2 (List.Pairwise.imp (fun h => Ne.symm h) c.nu)⟩
  | o :: rest, pre, i, fl, N, hp, hl, c, FL, NL, h => by
    have ho : ops[i]? = some o := by
      rw [← Array.getElem?_toList, hp, List.getElem?_append_right (by omega), hl, Nat.sub_self]; rfl
    have hp' : ops.toList = (pre ++ [o]) ++ rest := by rw [hp, List.append_assoc]; rfl
    unfold clsGo at h
    split at h
    · rename_i x hx
      refine clsGo_sound rest (pre ++ [o]) (i + 1) _ N hp' (by simp [hl]) ⟨fun f hf => ?_, c.n, fun j hj => ?_, fun f hf => ?_, fun p hp => Nat.lt_succ_of_lt (c.nlt p hp), fun f hf g hg e => ?_, fun f hf p hp e => ?_, c.nu⟩ FL NL h
      · cases hf with
        | tail _ hf => exact (c.f f hf).mono fun g hg => List.mem_cons_of_mem _ hg
        | head =>
          unfold fltOf at hx
          split at hx
          · split at hx
            · rename_i v hev
              cases hx
              refine ⟨o, _, ho, rfl, fun t y hy => ?_, hev⟩
              obtain ⟨g, hg, q1, q2, q3⟩ := look_fltT hy
              exact ⟨g, List.mem_cons_of_mem _ hg, memL_iff.1 q1, q2, q3⟩
            · cases hx
          · cases hx
      · rcases Nat.lt_or_ge j i with hji | hji
        · rcases c.all j hji with ⟨f, hf, q⟩ | h
          · exact .inl ⟨f, List.mem_cons_of_mem _ hf, q⟩
          · exact .inr h
        · exact .inl ⟨_, List.mem_cons_self, by show i = j; omega⟩
      · cases hf with
        | head => exact Nat.lt_succ_self _
        | tail _ hf => exact Nat.lt_succ_of_lt (c.flt f hf)
      · cases hf with
        | head =>
          cases hg with
          | head => rfl
          | tail _ hg => have h1 := c.flt g hg; have e : i = g.i := e; omega
        | tail _ hf =>
          cases hg with
          | head => have h1 := c.flt f hf; have e : f.i = i := e; omega
          | tail _ hg => exact c.fu f hf g hg e
      · cases hf with
        | head => have h1 := c.nlt p hp; have e : i = p.1 := e; omega
        | tail _ hf => exact c.fn f hf p hp e
    · refine clsGo_sound rest (pre ++ [o]) (i + 1) fl _ hp' (by simp [hl]) ⟨c.f, fun p hq => ?_, fun j hj => ?_, fun f hf => Nat.lt_succ_of_lt (c.flt f hf), fun p hp => ?_, c.fu, fun f hf p hp e => ?_, ?_⟩ FL NL h
      · cases hq with
        | head => exact ho
        | tail _ hq => exact c.n p hq
      · rcases Nat.lt_or_ge j i with hji | hji
        · rcases c.all j hji with h | ⟨p, hq, q⟩
          · exact .inl h
          · exact .inr ⟨p, List.mem_cons_of_mem _ hq, q⟩
        · exact .inr ⟨_, List.mem_cons_self, by show i = j; omega⟩
      · cases hp with
        | head => exact Nat.lt_succ_self _
        | tail _ hp => exact Nat.lt_succ_of_lt (c.nlt p hp)
      · cases hp with
        | head => have h1 := c.flt f hf; have e : f.i = i := e; omega
        | tail _ hp => exact c.fn f hf p hp e
      · rw [List.map_cons, List.nodup_cons]
        exact ⟨fun hm => by
          obtain ⟨p, hp, e⟩ := List.mem_map.1 hm
          have h1 := c.nlt p hp
          have e : p.1 = i := e
          omega, c.nu⟩
end
section
variable {P : Program} {E : Env P} {O : Oracle E} {w0 : Start} {ro0 : Nat → Nat → Prop} {n : Nat}
theorem Gam.lower {nx nx' : Nat} {tm : List (Nat × AV E)} {objs : List (Nat × AObj E)} {a : Act} {w : World} {ι : Nat → Option Gh} {ro : Nat → Nat → Prop} (hg : Gam E w0 ro0 ⟨n, tm, objs, nx'⟩ a w ι ro)
    (h1 : ∀ id, nx ≤ id → ι id = none) (h2 : ∀ id o, look objs id = some o → id < nx) : Gam E w0 ro0 ⟨n, tm, objs, nx⟩ a w ι ro :=
  ⟨hg.base, hg.size, hg.tmps, hg.objs, hg.inj, h1, h2⟩
theorem Gam.drew {S : ASt E} {a : Act} {w : World} {ι : Nat → Option Gh} {ro : Nat → Nat → Prop} (hg : Gam E w0 ro0 S a w ι ro) : Gam E w0 ro0 S a { w with drawn := w.drawn + 1 } ι ro := by
  refine {
    base := ⟨⟨hg.base.below.os, hg.base.below.tape, hg.base.below.output, hg.base.below.size, hg.base.below.block⟩, hg.base.rolt, hg.base.ronew, hg.base.ilt, hg.base.defers, hg.base.keep, hg.base.held⟩
    size := hg.size
    tmps := fun t x hl => by obtain ⟨v, hv, hs⟩ := hg.tmps t x hl; exact ⟨v, hv, SRep.mono (w := w) (ι := ι) (ro := ro) (fun _ _ h => h) (fun _ _ _ => rfl) (fun _ _ h => h) hs⟩
    objs := fun id o hl => ?_
    inj := hg.inj
    fresh := hg.fresh
    ids := hg.ids }
  have := hg.objs id o hl
  cases o with
  | dead => trivial
  | box cs =>
    obtain ⟨gh, g, vs, ty, h1, h2, hb, h3, h4, h5, h6⟩ := this
    exact ⟨gh, g, vs, ty, h1, h2, hb, h3, h4, fun j v c hv hc => ⟨(h5 j v c hv hc).1, Rep.mono (w := w) (ι := ι) (ro := ro) (fun _ _ h => h) (fun _ _ _ => rfl) (fun _ _ h => h) (h5 j v c hv hc).2⟩, h6⟩
  | tail l => exact this
  | dfr => exact this
  | lp st pend n tm ps assign body =>
    obtain ⟨gh, g, rec, h1, h2, h3, h4, h5⟩ := this
    exact ⟨gh, g, rec, h1, h2, h3, h4, fun t x hl => by
      obtain ⟨v, q1, q2⟩ := h5 t x hl
      exact ⟨v, q1, Rep.mono (w := w) (ι := ι) (ro := ro) (fun _ _ h => h) (fun _ _ _ => rfl) (fun _ _ h => h) q2⟩⟩
  | mp K V l =>
    obtain ⟨gh, g, es, h1, h2, h3, h4, h5, h6⟩ := this
    exact ⟨gh, g, es, h1, h2, h3, h4, h5, fun j e x he hx => by
      obtain ⟨k1, k2, k3, k4⟩ := h6 j e x he hx
      exact ⟨k1, k2, k3, fun i v c hv hc => ⟨(k4 i v c hv hc).1, Rep.mono (w := w) (ι := ι) (ro := ro) (fun _ _ h => h) (fun _ _ _ => rfl) (fun _ _ h => h) (k4 i v c hv hc).2⟩⟩⟩
  | row t l =>
    obtain ⟨gh, xs, h1, h2, h3, h4, h5, h6, h7⟩ := this
    exact ⟨gh, xs, h1, h2, h3, h4, OwnT.frame (w := w) h5 fun _ _ => rfl, RowD.mono (w := w) (w' := { w with drawn := w.drawn + 1 }) (ro := ro) (fun _ _ h => h) (fun _ _ _ => rfl) h6, h7⟩
theorem put_get_ne {a : Act} {d : Option Nat} {t : Nat} {val : Value} (h : d ≠ some t) : (a.put d val).tmps[t]? = a.tmps[t]? := by
  cases d with
  | none => rfl
  | some d =>
    have : d ≠ t := fun e => h (by rw [e])
    simp [Act.put, Array.getElem?_setIfInBounds, this]
theorem look_putL_of {d : Option Nat} {x y : AV E} {tm : List (Nat × AV E)} {t : Nat} (h : look tm t = some y) (hd : d ≠ some t) : look (putL d x tm) t = some y := by
  cases d with
  | none => exact h
  | some d =>
    simp only [putL, look_cons]
    rw [if_neg (fun e => hd (by rw [Nat.eq_of_beq_eq_true e]))]
    exact h
theorem look_putL_none {d : Option Nat} {x : AV E} {tm : List (Nat × AV E)} {t : Nat} (h : look tm t = none) (hd : d ≠ some t) : look (putL d x tm) t = none := by
  cases d with
  | none => exact h
  | some d =>
    simp only [putL, look_cons]
    rw [if_neg (fun e => hd (by rw [Nat.eq_of_beq_eq_true e]))]
    exact h
structure ChInv (E : Env P) (O : Oracle E) (w0 : Start) (ro0 : Nat → Nat → Prop) (ops : Array Oper) (n : Nat) (tm0 : List (Nat × AV E)) (FL : List (Flt E)) (NL : List (Nat × Oper)) {R : Type} (k : ASt E → Option R) (rr : R) (D : Nat → Bool) (rest : List (Nat × Oper)) (tm : List (Nat × AV E)) (objs : List (Nat × AObj E)) (next : Nat) (a : Act) (w : World) (ι : Nat → Option Gh) (ro : Nat → Nat → Prop) : Prop where
  g : Gam E w0 ro0 ⟨n, tm, objs, next⟩ a w ι ro
  nc : NoCond tm
  fl : ∀ f ∈ FL, D f.i = true → ∀ d, f.d = some d → ∃ v, a.tmps[d]? = some v ∧ Rep E w ro ι v f.x
  fd : ∀ f ∈ FL, ∀ d, f.d = some d → look tm d = none
  t0 : ∀ t x, look tm0 t = some x → look tm t = some x
  todo : ∀ p ∈ rest, D p.1 = false
  done : ∀ p ∈ NL, p ∈ rest ∨ D p.1 = true
  closed : ∀ i o, ops[i]? = some o → D i = true → ∀ j ∈ predL o, D j = true
  run : chRun O ops n FL rest tm objs next k = some rr
  suf : ∃ pre, NL = pre ++ rest
theorem chRun_big {R : Type} {ops : Array Oper} {FL : List (Flt E)} {rest : List (Nat × Oper)} {tm : List (Nat × AV E)} {objs : List (Nat × AObj E)} {next : Nat} {k : ASt E → Option R} {rr : R} (h : chRun O ops n FL rest tm objs next k = some rr) : next ≤ bigId := by
  cases rest with
  | nil =>
    unfold chRun at h
    split at h
    · rename_i hb; exact Nat.le_of_ble_eq_true hb
    · cases h
  | cons p rest =>
    obtain ⟨i, o⟩ := p
    unfold chRun at h
    split at h
    · rename_i hb; exact Nat.le_of_ble_eq_true hb
    · cases h
theorem rep_of_srep {tm : Array Value} {w : World} {ι : Nat → Option Gh} {ro : Nat → Nat → Prop} {v : Value} {x : AV E} (hx : isCond x = false) (h : SRep E w ro ι tm v x) : Rep E w ro ι v x := by
  cases x <;> first | exact h | cases hx
theorem srep_of_rep {tm : Array Value} {w : World} {ι : Nat → Option Gh} {ro : Nat → Nat → Prop} {v : Value} {x : AV E} (hx : isCond x = false) (h : Rep E w ro ι v x) : SRep E w ro ι tm v x := by
  cases x <;> first | exact h | cases hx
theorem evG_nc {ops : Array Oper} {S : ASt E} {o : Oper} {r : Res E} (hg : o.guard = none) (h : evG O ops S o = some r) : isCond r.v = false := by
  unfold evG at h
  rw [hg] at h
  exact (evG_plain h).2
theorem wpOp_of {ops : Array Oper} {i : Nat} {o : Oper} {a : Act} {w : World} {K : Act → World → Prop} {Q : Exit → Act → World → Prop} (ho : ops[i]? = some o) (hg : o.guard = none) (h : o.wp P a w K Q) : wpOp P ops Q i K a w := by
  unfold wpOp
  rw [ho]
  show if Region.wanted o (yielded ops a.tmps) = true then _ else _
  rw [if_pos (show Region.wanted o (yielded ops a.tmps) = true by simp [Region.wanted, hg])]
  exact .inl h
theorem evChain_any {R : Type} (hO : OracleOk E O) {ops : Array Oper} {S : ASt E} {a : Act} {w : World} {ι : Nat → Option Gh} {ro : Nat → Nat → Prop} (hnc : NoCond S.tmps) (hg : Gam E w0 ro0 S a w ι ro) {k : ASt E → Option R} {rr : R} {Q : Exit → Act → World → Prop}
    (hk : ∀ S' a' w' ι' ro', NoCond S'.tmps → Gam E w0 ro0 S' a' w' ι' ro' → S'.n = S.n → k S' = some rr → Q .normal a' w') (h : evChain O ops S k = some rr) : wpAny P .any ops Q ops.size (Array.replicate ops.size false) a { w with drawn := w.drawn + 1 } := by
  obtain ⟨n, tmS, obS, nxS⟩ := S
  unfold evChain at h
  generalize htm0 : dropT (dstsOf ops.toList) tmS = tm0 at h
  have h : (match clsGo O ops n tm0 ops.toList 0 [] [] with
    | (FL, NL) => (match plainL n ops.toList && (nodupB (dstsOf ops.toList) && (acyGo ops.size ops.toList 0 && chOk ops.toList NL)) with
      | true => chRun O ops n FL NL tm0 obS nxS k
      | false => none)) = some rr := by rw [← htm0] at h ⊢; exact h
  split at h
  rename_i FL NL hcl
  split at h
  rotate_left
  · cases h
  rename_i hst
  simp only [Bool.and_eq_true] at hst
  obtain ⟨hpl, hnd, hacy, hch⟩ := hst
  obtain ⟨hFL, hNL, hall, _, _, hfu, hfn, hnu⟩ := clsGo_sound (O := O) (tm0 := tm0) (n := n) ops.toList [] 0 [] [] (by simp) rfl ⟨(fun f hf => by cases hf), (fun p hp => by cases hp), (fun j hj => absurd hj (Nat.not_lt_zero _)), (fun f hf => by cases hf), (fun p hp => by cases hp), (fun f hf => by cases hf), (fun f hf => by cases hf), List.nodup_nil⟩ FL NL hcl
  have acy := acyGo_sound ops.toList 0 hacy
  have plain : ∀ (i : Nat) (o : Oper), ops[i]? = some o → o.guard = none ∧ dstR n o.dst = true := fun i o ho => by
    unfold plainL at hpl
    rw [List.all_eq_true] at hpl
    have := hpl o (by rw [← Array.getElem?_toList] at ho; exact List.mem_of_getElem? ho)
    rw [Bool.and_eq_true] at this
    refine ⟨?_, this.2⟩
    have h1 := this.1
    split at h1
    · assumption
    · cases h1
  have uniq : ∀ (i j : Nat) (o p : Oper) (d : Nat), ops[i]? = some o → ops[j]? = some p → o.dst = some d → p.dst = some d → i = j := fun i j o p d hi hj => dsts_uniq hnd (by rw [Array.getElem?_toList]; exact hi) (by rw [Array.getElem?_toList]; exact hj)
  have dst0 : ∀ (i : Nat) (o : Oper) (t : Nat), ops[i]? = some o → o.dst = some t → look tm0 t = none := fun i o t ho ht => by
    cases hl : look tm0 t with
    | none => rfl
    | some x =>
      rw [← htm0] at hl
      obtain ⟨_, h2⟩ := look_dropT hl
      rw [memL_iff.2 (dsts_mem (l := ops.toList) (i := i) (by rw [Array.getElem?_toList]; exact ho) ht)] at h2
      cases h2
  have fop : ∀ f ∈ FL, ∃ o, ops[f.i]? = some o ∧ f.d = o.dst ∧ isCond f.x = false := fun f hf => by
    obtain ⟨o, env, h1, h2, h3, h4⟩ := hFL f hf
    exact ⟨o, h1, h2, evG_nc (plain f.i o h1).1 h4⟩
  -- what is known of the slots, for an operation all of whose forerunners are done
  have know : ∀ (D : Nat → Bool) rest tm objs next a w ι ro, ChInv E O w0 ro0 ops n tm0 FL NL k rr D rest tm objs next a w ι ro → ∀ (env : List (Nat × AV E)), (∀ t x, look env t = some x → ∃ f ∈ FL, D f.i = true ∧ f.d = some t ∧ f.x = x) → TmOk E w ro ι a (env ++ tm) := by
    intro D rest tm objs next a w ι ro hi env he t x hl
    rw [look_app] at hl
    cases hq : look env t with
    | none => rw [hq] at hl; exact hi.g.tmps t x hl
    | some y =>
      rw [hq] at hl
      cases hl
      obtain ⟨f, hf, h1, h2, rfl⟩ := he t x hq
      obtain ⟨v, h3, h4⟩ := hi.fl f hf h1 t h2
      obtain ⟨_, _, _, hc⟩ := fop f hf
      exact ⟨v, h3, srep_of_rep hc h4⟩
  have fin : ∀ (D : Nat → Bool) rest tm objs next a w ι ro, ChInv E O w0 ro0 ops n tm0 FL NL k rr D rest tm objs next a w ι ro → (∀ j, j < ops.size → D j = true) → Q .normal a w := by
    intro D rest tm objs next a w ι ro hi hD
    have hrest : rest = [] := by
      cases rest with
      | nil => rfl
      | cons p rest =>
        exfalso
        have h1 := hi.todo p List.mem_cons_self
        obtain ⟨pre, hpre⟩ := hi.suf
        have h2 := hNL p (by rw [hpre]; simp)
        have hlt : p.1 < ops.size := (Array.getElem?_eq_some_iff.1 h2).1
        rw [hD p.1 hlt] at h1; cases h1
    subst hrest
    have hr := hi.run
    unfold chRun at hr
    split at hr
    · refine hk ⟨n, fltT (fun _ => true) FL ++ tm, objs, next⟩ a w ι ro (fun p hp => ?_) ⟨hi.g.base, hi.g.size, know D [] tm objs next a w ι ro hi _ (fun t x hl => ?_), hi.g.objs, hi.g.inj, hi.g.fresh, hi.g.ids⟩ rfl hr
      · rcases List.mem_append.1 hp with hp | hp
        · obtain ⟨f, hf, he⟩ := mem_fltT hp
          obtain ⟨_, _, _, hc⟩ := fop f hf
          rw [← he]; exact hc
        · exact hi.nc p hp
      · obtain ⟨f, hf, _, h2, h3⟩ := look_fltT hl
        obtain ⟨o, h1, _, _⟩ := fop f hf
        exact ⟨f, hf, hD f.i (Array.getElem?_eq_some_iff.1 h1).1, h2, h3⟩
    · cases hr
  have ready_done : ∀ (listed : Array Bool), listed.size = ops.size → Region.ready .any ops listed = [] → ∀ j, j < ops.size → listed.getD j false = true := by
    intro listed hs hr j
    induction j using Nat.strongRecOn with
    | ind j ih =>
      intro hj
      cases hd : listed.getD j false with
      | true => rfl
      | false =>
        exfalso
        have ho := Array.getElem?_eq_getElem hj
        have hmem : j ∈ Region.ready .any ops listed := (ready_iff listed j).2 ⟨hj, by
          simp only [Array.getD_eq_getD_getElem?] at hd ⊢
          rw [Array.getElem?_eq_getElem (by omega)] at hd ⊢
          simpa using hd, _, ho, (predL_iff (D := fun j => listed.getD j false)).2 fun q hq => by
            have := (acy j _ (by rw [Array.getElem?_toList]; exact ho)).1 q hq
            exact ih q (by omega) (by omega)⟩
        rw [hr] at hmem
        cases hmem
  have key : ∀ (fuel : Nat) (listed : Array Bool) rest tm objs next a w ι ro, listed.size = ops.size → listed.toList.count false ≤ fuel → ChInv E O w0 ro0 ops n tm0 FL NL k rr (fun j => listed.getD j false) rest tm objs next a w ι ro → wpAny P .any ops Q fuel listed a w := by
    intro fuel
    induction fuel with
    | zero =>
      intro listed rest tm objs next a w ι ro hsz hcount hi
      have hr : Region.ready .any ops listed = [] := by
        rw [List.eq_nil_iff_forall_not_mem]
        intro i hi
        obtain ⟨h1, h2, _⟩ := (ready_iff listed i).1 hi
        have hmem : false ∈ listed.toList := by
          simp only [Array.getD_eq_getD_getElem?] at h2
          rw [Array.getElem?_eq_getElem (by omega)] at h2
          simp at h2
          rw [← h2]
          exact Array.mem_toList_iff.2 (Array.getElem_mem _)
        have := List.count_pos_iff.2 hmem
        omega
      exact ⟨hr, fin _ _ _ _ _ _ _ _ _ hi (ready_done listed hsz hr)⟩
    | succ fuel ih =>
      intro listed rest tm objs next a w ι ro hsz hcount hi
      refine ⟨fun hr => fin _ _ _ _ _ _ _ _ _ hi (ready_done listed hsz hr), fun i hr => ?_⟩
      obtain ⟨hlt, hun, o, ho, hpr⟩ := (ready_iff listed i).1 hr
      have hpr := (predL_iff (D := fun j => listed.getD j false)).1 hpr
      have hDi : listed.getD i false = false := by
        simp only [Array.getD_eq_getD_getElem?] at hun ⊢
        rw [Array.getElem?_eq_getElem (by omega)] at hun ⊢
        simpa using hun
      have hset := fun j => getD_set listed (i := i) (j := j) (by omega)
      have hcnt : ((listed.setIfInBounds i true).toList.count false) ≤ fuel := by
        have hl : i < listed.toList.length := by rw [Array.length_toList, hsz]; exact hlt
        have hget : listed.toList[i] = false := by
          simp only [Array.getD_eq_getD_getElem?] at hDi
          rw [Array.getElem?_eq_getElem (by omega)] at hDi
          simpa using hDi
        have hc : (listed.toList.set i true).count false + 1 = listed.toList.count false := by
          rw [List.count_set hl, hget]
          have : 0 < listed.toList.count false := List.count_pos_iff.2 (by rw [← hget]; exact List.getElem_mem _)
          have e1 : (if (false == false) = true then 1 else 0) = 1 := rfl
          have e2 : (if (true == false) = true then 1 else 0) = 0 := rfl
          rw [e1, e2]
          omega
        rw [Array.toList_setIfInBounds]
        omega
      obtain ⟨hgu, hdr⟩ := plain i o ho
      have hclosed : ∀ j p, ops[j]? = some p → (listed.setIfInBounds i true).getD j false = true → ∀ q ∈ predL p, (listed.setIfInBounds i true).getD q false = true := fun j p hp hj q hq => by
        rw [hset] at hj ⊢
        rcases hj with hj | rfl
        · exact .inl (hi.closed j p hp hj q hq)
        · rw [ho] at hp; cases hp; exact .inl (hpr q hq)
      refine wpOp_of ho hgu ?_
      -- the floats' slots stay
      have keepF : ∀ (val : Value) (w' : World) (ι' : Nat → Option Gh) (ro' : Nat → Nat → Prop), (∀ k o, ro k o → ro' k o) → (∀ k o, ro k o → w'.cell? ⟨k, o, none⟩ = w.cell? ⟨k, o, none⟩) → (∀ id gh, ι id = some gh → ι' id = some gh) →
          ∀ f ∈ FL, f.i ≠ i → listed.getD f.i false = true → ∀ d, f.d = some d → ∃ v, (a.put o.dst val).tmps[d]? = some v ∧ Rep E w' ro' ι' v f.x := by
        intro val w' ι' ro' m1 m2 m3 f hf hne hD d hd
        obtain ⟨v, h1, h2⟩ := hi.fl f hf hD d hd
        obtain ⟨p, hp, hpd, _⟩ := fop f hf
        refine ⟨v, ?_, h2.mono m1 m2 m3⟩
        rw [put_get_ne (fun e => hne (uniq f.i i p o d hp ho (by rw [← hpd]; exact hd) e))]
        exact h1
      have t0' : ∀ (v : AV E), ∀ t x, look tm0 t = some x → look (putL o.dst v tm) t = some x := fun v t x hl => look_putL_of (hi.t0 t x hl) fun e => by rw [dst0 i o t ho e] at hl; cases hl
      rcases hall i hlt with ⟨f, hf, hfi⟩ | ⟨p, hp, hpi⟩
      · -- a float
        obtain ⟨o', env, q1, q2, q3, q4⟩ := hFL f hf
        rw [hfi, ho] at q1
        cases q1
        have hbig : next ≤ bigId := chRun_big hi.run
        have htm : TmOk E w ro ι a (env ++ tm0) := by
          have hk' := know _ _ _ _ _ _ _ _ _ hi env (fun t x hl => by
            obtain ⟨g, hg1, hg2, hg3, hg4⟩ := q3 t x hl
            exact ⟨g, hg1, hpr g.i hg2, hg3, hg4⟩)
          intro t x hl
          refine hk' t x ?_
          rw [look_app] at hl ⊢
          cases hq : look env t with
          | some y => rw [hq] at hl; exact hl
          | none => rw [hq] at hl; exact hi.t0 t x hl
        have hsd := evG_sound (S := ⟨n, env ++ tm0, [], bigId⟩) (Q := Q) (K := fun a' w' => wpAny P .any ops Q fuel (listed.setIfInBounds i true) a' w') hi.g.base.rolt htm (fun id o h => by cases h) (hi.g.fresh _ hbig) hO q4 rfl fun val w' ι' ro' hp hslot => ?_
        · rw [if_pos (show Region.wanted o (yielded ops a.tmps) = true by simp [Region.wanted, hgu])] at hsd
          exact hsd
        · obtain ⟨_, _, _, hc⟩ := fop f hf
          have hgb : Gam E w0 ro0 ⟨n, [] ++ tm, objs, bigId⟩ a w ι ro := hi.g.lower (fun id h => hi.g.fresh id (Nat.le_trans hbig h)) fun id o h => Nat.lt_of_lt_of_le (hi.g.ids id o h) hbig
          have hst : Gam E w0 ro0 ⟨n, putL o.dst f.x [] ++ tm, objs, bigId + 1⟩ (a.put o.dst val) w' ι' ro' := gam_step (loc := []) (glob := tm) (r := ⟨true, f.x, none, none⟩) hgb hi.nc (dstOk_nc (fun p hp => by cases hp) hc hdr) (fun id o hu => by cases hu) hp hslot
          have hnn : ι' = ι := hp.nonew rfl
          have hst := hst.lower (nx := next) (fun id h => by rw [hnn]; exact hi.g.fresh id h) (hi.g.ids)
          have hfr : ι bigId = none := hi.g.fresh _ hbig
          have hrepv : ∀ d, o.dst = some d → ∃ v, (a.put o.dst val).tmps[d]? = some v ∧ Rep E w' ro' ι' v f.x := fun d hd => by
            obtain ⟨v, h1, h2⟩ := hst.tmps d f.x (by rw [hd]; simp [putL, look_cons])
            exact ⟨v, h1, rep_of_srep hc h2⟩
          refine ih (listed.setIfInBounds i true) rest tm objs next _ w' ι' ro' (by simp [hsz]) hcnt {
            g := Gam.sub (n := n) (tm := putL o.dst f.x [] ++ tm) (objs := objs) (nx := next) hst (fun t x hl => ?_) (fun _ _ h => h)
            nc := hi.nc
            fl := fun g hg' hD d hd => ?_
            fd := hi.fd
            t0 := hi.t0
            todo := fun p hp => ?_
            done := fun p hp => ?_
            closed := hclosed
            run := hi.run
            suf := hi.suf }
          · rw [look_app]
            cases hod : o.dst with
            | none => exact hl
            | some d =>
              have : look (putL (some d) f.x []) t = none := by
                cases hq : look (putL (some d) f.x ([] : List (Nat × AV E))) t with
                | none => rfl
                | some y =>
                  exfalso
                  simp only [putL, look_cons, look_nil] at hq
                  split at hq
                  · rename_i hb
                    have := Nat.eq_of_beq_eq_true hb
                    subst this
                    rw [hi.fd f hf d (by rw [q2, hod])] at hl
                    cases hl
                  · cases hq
              rw [this]
              exact hl
          · by_cases hgi : g.i = i
            · obtain ⟨p, hp', hpd, _⟩ := fop g hg'
              rw [hgi, ho] at hp'
              cases hp'
              rw [hfu g hg' f hf (by rw [hgi, hfi])]
              exact hrepv d (by rw [← hpd]; exact hd)
            · exact keepF val w' ι' ro' hp.mono hp.cell (hp.ext hfr) g hg' hgi (by
                have hD := (hset g.i).1 hD
                rcases hD with h | h
                · exact h
                · exact absurd h hgi) d hd
          · have h1 := hi.todo p hp
            cases hq : (listed.setIfInBounds i true).getD p.1 false with
            | false => rfl
            | true =>
              exfalso
              rcases (hset p.1).1 hq with h | h
              · rw [h] at h1; cases h1
              · obtain ⟨pre, hpre⟩ := hi.suf
                exact hfn f hf p (by rw [hpre]; exact List.mem_append_right _ hp) (by rw [hfi, h])
          · rcases hi.done p hp with h | h
            · exact .inl h
            · exact .inr ((hset p.1).2 (.inl h))
      · -- the chain's next operation
        obtain ⟨pi, po⟩ := p
        have hpi : pi = i := hpi
        subst hpi
        have hpo := hNL _ hp
        have hpo : ops[pi]? = some po := hpo
        rw [ho] at hpo
        cases hpo
        obtain ⟨pre, hpre⟩ := hi.suf
        have hmem : (pi, o) ∈ rest := by
          rcases hi.done _ hp with h | h
          · exact h
          · have h : listed.getD pi false = true := h
            rw [hDi] at h; cases h
        obtain ⟨rest', rfl⟩ : ∃ rest', rest = (pi, o) :: rest' := by
          obtain ⟨l1, l2, hl⟩ := List.append_of_mem hmem
          cases hl1 : l1.reverse with
          | nil =>
            have : l1 = [] := List.reverse_eq_nil_iff.1 hl1
            subst this
            exact ⟨l2, hl⟩
          | cons q t =>
            exfalso
            have e1 : l1 = t.reverse ++ [q] := by rw [← List.reverse_reverse l1, hl1, List.reverse_cons]
            have hb := chOk_at hch (pre := pre ++ t.reverse) (post := l2) (p := q) (q := (pi, o)) (by rw [hpre, hl, e1]; simp)
            have hq := hi.todo q (by rw [hl, e1]; simp)
            have := befB_sound (D := fun j => listed.getD j false) (fun j p hp => hi.closed j p (by rw [← Array.getElem?_toList]; exact hp)) _ _ _ hb (fun p hp => by
              rw [Array.getElem?_toList] at hp
              have hp : ops[pi]? = some p := hp
              rw [ho] at hp; cases hp; exact hpr)
            have this : listed.getD q.1 false = true := this
            rw [hq] at this; cases this
        have hnotin : ∀ q ∈ rest', q.1 ≠ pi := fun q hq e => by
          rw [hpre, List.map_append, List.map_cons] at hnu
          have := (List.nodup_append.1 hnu).2.1
          rw [List.nodup_cons] at this
          exact this.1 (List.mem_map.2 ⟨q, hq, e⟩)
        have hrun := hi.run
        unfold chRun at hrun
        split at hrun
        rotate_left
        · cases hrun
        rename_i hbig
        have hbig := Nat.le_of_ble_eq_true hbig
        have henv : ∀ t x, look (fltT (memL (predL o)) FL) t = some x → ∃ f ∈ FL, listed.getD f.i false = true ∧ f.d = some t ∧ f.x = x := fun t x hl => by
          obtain ⟨f, hf, h1, h2, h3⟩ := look_fltT hl
          exact ⟨f, hf, hpr f.i (memL_iff.1 h1), h2, h3⟩
        have htm := know _ _ _ _ _ _ _ _ _ hi _ henv
        have hgE : Gam E w0 ro0 ⟨n, fltT (memL (predL o)) FL ++ tm, objs, next⟩ a w ι ro := ⟨hi.g.base, hi.g.size, htm, hi.g.objs, hi.g.inj, hi.g.fresh, hi.g.ids⟩
        have hncE : NoCond (fltT (memL (predL o)) FL ++ tm) := fun p hp => by
          rcases List.mem_append.1 hp with hp | hp
          · obtain ⟨f, hf, he⟩ := mem_fltT hp
            obtain ⟨_, _, _, hc⟩ := fop f hf
            rw [← he]; exact hc
          · exact hi.nc p hp
        have c : Ctx E ⟨n, fltT (memL (predL o)) FL ++ tm, objs, next⟩ [] a w ι ro := ⟨htm, fun j b hb => by simp [hasAsm] at hb, hi.g.base.rolt, hi.g.objs, hi.g.fresh _ (Nat.le_refl _)⟩
        -- what is known behind it
        have after : ∀ (v : AV E) (val : Value) (objs' : List (Nat × AObj E)) (next' : Nat) (w' : World) (ι' : Nat → Option Gh) (ro' : Nat → Nat → Prop), isCond v = false → Gam E w0 ro0 ⟨n, putL o.dst v (fltT (memL (predL o)) FL ++ tm), objs', next'⟩ (a.put o.dst val) w' ι' ro' →
            (∀ k o, ro k o → ro' k o) → (∀ k o, ro k o → w'.cell? ⟨k, o, none⟩ = w.cell? ⟨k, o, none⟩) → (∀ id gh, ι id = some gh → ι' id = some gh) → chRun O ops n FL rest' (putL o.dst v tm) objs' next' k = some rr → wpAny P .any ops Q fuel (listed.setIfInBounds pi true) (a.put o.dst val) w' := by
          intro v val objs' next' w' ι' ro' hc hg' m1 m2 m3 hrun'
          refine ih (listed.setIfInBounds pi true) rest' (putL o.dst v tm) objs' next' _ w' ι' ro' (by simp [hsz]) hcnt {
            g := Gam.sub hg' (fun t x hl => ?_) (fun _ _ h => h)
            nc := nc_putL hi.nc hc
            fl := fun g hg' hD d hd => ?_
            fd := fun g hg' d hd => ?_
            t0 := t0' v
            todo := fun q hq => ?_
            done := fun q hq => ?_
            closed := hclosed
            run := hrun'
            suf := ⟨pre ++ [(pi, o)], by rw [hpre]; simp⟩ }
          · rcases look_putL hl with ⟨h1, rfl⟩ | ⟨h1, h2⟩
            · rw [h1]; simp [putL, look_cons]
            · refine look_putL_of ?_ h1
              rw [look_app]
              cases hq : look (fltT (memL (predL o)) FL) t with
              | none => exact h2
              | some y =>
                exfalso
                obtain ⟨f, hf, _, q2, _⟩ := look_fltT hq
                rw [hi.fd f hf t q2] at h2; cases h2
          · have hgi : g.i ≠ pi := fun e => hfn g hg' _ hp e
            exact keepF val w' ι' ro' m1 m2 m3 g hg' hgi (by
              rcases (hset g.i).1 hD with h | h
              · exact h
              · exact absurd h hgi) d hd
          · obtain ⟨p, hp', hpd, _⟩ := fop g hg'
            refine look_putL_none (hi.fd g hg' d hd) fun e => ?_
            exact hfn g hg' _ hp (uniq g.i pi p o d hp' ho (by rw [← hpd]; exact hd) e)
          · cases hq' : (listed.setIfInBounds pi true).getD q.1 false with
            | false => rfl
            | true =>
              exfalso
              rcases (hset q.1).1 hq' with h | h
              · have := hi.todo q (List.mem_cons_of_mem _ hq)
                have this : listed.getD q.1 false = false := this
                rw [h] at this; cases this
              · exact hnotin q hq h
          · rcases hi.done q hq with h | h
            · cases h with
              | head => exact .inr ((hset pi).2 (.inr rfl))
              | tail _ h => exact .inl h
            · exact .inr ((hset q.1).2 (.inl h))
        split at hrun
        · rename_i f args hin
          obtain ⟨_, cal, as_, ts, vs, us, p', q', hop, hfo, rfl, hp1, hq1, hp2, hq2⟩ := inlOf_inv c hin
          obtain ⟨hfn', hcalls⟩ := hO.2.2.2.2.1 _ _ _ _ _ _ hrun
          unfold Oper.wp
          rw [enter_fn hop hfo hfn']
          refine (hcalls w0 ro0 a w ι ro _ hi.g.base hi.g.objs hi.g.inj hi.g.fresh hi.g.ids (by simp [argsA, hp1, hq1]) fun i v x hv hx => ?_).mono fun e w' he => ?_
          · refine app_rep (by simpa using hp1) (fun j v c h1 h2 => hp2 j v c (by simpa using h1) h2) (app_rep (by simp [argsA]) (fun j v x h1 h2 => argsA_rep c as_ j v x (by simpa using h1) h2) fun j v c h1 h2 => hq2 j v c (by simpa using h1) h2) i v x hv hx
          · obtain ⟨v, x, objs', next', ι', ro', rfl, hk', hv, hb', ho', hi', hf', hids, hkeep, hext⟩ := he
            split at hk'
            · cases hk'
            · rename_i hcx
              have := gam_in (loc := fltT (memL (predL o)) FL ++ tm) (glob := []) (by rw [List.append_nil]; exact hgE) (fun p hp => by cases hp) (dstOk_nc hncE hcx hdr) hcx hv hb' ho' hi' hf' hids hkeep hext
              rw [List.append_nil] at this
              exact after x v objs' next' w' ι' ro' hcx this (fun k o h => (hkeep k o h).1) (fun k o h => (hkeep k o h).2) hext hk'
        · split at hrun
          · rename_i q hq
            split at hrun
            · rename_i hok
              rw [frcV_eq, frcN_eq] at hrun
              have hcx := evG_nc hgu hq
              have hfr : ι next = none := hi.g.fresh _ (Nat.le_refl _)
              have hsd := evG_sound (S := ⟨n, fltT (memL (predL o)) FL ++ tm, objs, next⟩) (Q := Q) (K := fun a' w' => wpAny P .any ops Q fuel (listed.setIfInBounds pi true) a' w') hi.g.base.rolt htm hi.g.objs hfr hO hq hok fun val w' ι' ro' hp' hslot => ?_
              · rw [if_pos (show Region.wanted o (yielded ops a.tmps) = true by simp [Region.wanted, hgu])] at hsd
                exact hsd
              · have := gam_step (loc := fltT (memL (predL o)) FL ++ tm) (glob := []) (by rw [List.append_nil]; exact hgE) (fun p hp => by cases hp) (dstOk_nc hncE hcx hdr) (fun id o hu => evG_upd hq hu) hp' hslot
                rw [List.append_nil] at this
                exact after q.v val _ _ w' ι' ro' hcx this hp'.mono hp'.cell (hp'.ext hfr) hrun
            · cases hrun
          · cases hrun
  refine key ops.size _ NL tm0 obS nxS a _ ι ro (by simp) (by simp) {
    g := Gam.drew (Gam.sub (n := n) (tm := tmS) (objs := obS) (nx := nxS) hg (fun t x hl => by rw [← htm0] at hl; exact (look_dropT hl).1) (fun _ _ h => h))
    nc := by rw [← htm0]; exact nc_dropT hnc
    fl := fun f _ hD => ?_
    fd := fun f hf d hd => ?_
    t0 := fun _ _ h => h
    todo := fun p _ => ?_
    done := fun p hp => .inl hp
    closed := fun i o _ hD => ?_
    run := h
    suf := ⟨[], rfl⟩ }
  · simp only [Array.getD_eq_getD_getElem?, Array.getElem?_replicate] at hD
    split at hD <;> cases hD
  · obtain ⟨o, h1, h2, _⟩ := fop f hf
    exact dst0 f.i o d h1 (by rw [← h2]; exact hd)
  · simp only [Array.getD_eq_getD_getElem?, Array.getElem?_replicate]
    split <;> rfl
  · simp only [Array.getD_eq_getD_getElem?, Array.getElem?_replicate] at hD
    split at hD <;> cases hD
end
end
end Go.Proofs.YtoibjelpldfpfaaGreatDoor.Mir
namespace Go.Proofs.YtoibjelpldfpfaaGreatDoor.Mir
open Go Go.RowKit
noncomputable section
section
variable {P : Program} {E : Env P}
def isLast (I : Inl E) (ops : Array Oper) : Bool := match ops.toList.reverse with
  | o :: _ => (match o.op with
    | .call c => (match c.callee with
      | .value (.func f) => I.has f
      | _ => false)
    | _ => false)
  | [] => false
def heavyC (I : Inl E) (tm : List (Nat × AV E)) (o : Oper) : Bool := match o.op with
  | .call c => (match c.callee with
    | .value (.func f) => I.has f
    | .value (.tmp t) => (match look tm t with
      | some (.fn _ _ _) => true
      | _ => false)
    | _ => false)
  | _ => false
def isChain (I : Inl E) (tm : List (Nat × AV E)) (ops : Array Oper) : Bool := match ops.toList.reverse with
  | [] => false
  | _ :: r => r.any (heavyC I tm)
def evRegR {R : Type} (b : Bool) (O : Oracle E) (Y : Rnd E) (ops : Array Oper) (dr : Bool) (S : ASt E) (k : ASt E → Option R) : Option R := match dr with
  | false => evSeqR O Y ops S.n ops.toList S.tmps S.objs S.next k
  | true => (match noDefer ops.toList with
    | true => (match isChain O.inl S.tmps ops with
      | true => evChain O ops S fun S' => normS Y.frc S' k
      | false => (match b || isLast O.inl ops with
      | true => evLast O ops S fun S' => normS Y.frc S' k
      | false => evDraw O ops S.n S.tmps S.objs S.next ops.toList [] 0 fun S' => normS Y.frc S' k))
    | false => none)
section
variable {O : Oracle E} {Y : Rnd E} {w0 : Start} {ro0 : Nat → Nat → Prop} {nn : Nat} {r : Option Nat}
theorem region_any {ops : Array Oper} {id : Nat} {a : Act} {w : World} {K : Act → World → Prop} {Q : Exit → Act → World → Prop} (hmix : P.follows .mixedOrders = true) (hd : noDefer ops.toList = true)
    (h : wpAny P .any ops (Nm K) ops.size (Array.replicate ops.size false) a { w with drawn := w.drawn + 1 }) (hK : ∀ a w, K a w → Q .normal a w) : (Code.region id ops true).wpIn (Wd r) nn P Q a w := by
  refine wpIn_region_any hmix ?_
  have hh : ∀ e a w, Nm K e a w → Nm (Q .normal) e a w := fun e a w h => by cases e <;> first | exact hK _ _ h | exact h
  have := any_in (r := r) (n := nn) Nm.out hd ops.size (Array.replicate ops.size false) a _ h
  have mono : ∀ (fuel : Nat) (listed : Array Bool) (a : Act) (w : World), wpAnyIn (Wd r) nn P .any ops (Nm K) fuel listed a w → wpAnyIn (Wd r) nn P .any ops (Nm (Q .normal)) fuel listed a w := by
    intro fuel
    induction fuel with
    | zero => intro listed a w h; exact ⟨h.1, hh _ _ _ h.2⟩
    | succ fuel ih =>
      intro listed a w h
      refine ⟨fun hr => hh _ _ _ (h.1 hr), fun i hi => ?_⟩
      have := h.2 i hi
      unfold wpOpIn at this ⊢
      cases ho : ops[i]? with
      | none => rw [ho] at this; exact ih _ _ _ this
      | some o =>
        rw [ho] at this
        simp only at this ⊢
        split
        · rename_i hw
          rw [if_pos hw] at this
          exact oper_monoQ (fun a w q => ih _ a w q) (fun _ _ _ q => q.elim) (fun q => absurd q Nm.out) this
        · rename_i hw
          rw [if_neg hw] at this
          exact ⟨this.1, ih _ _ _ this.2⟩
  exact any_mono (mono _ _ _ _ this)
theorem evLast_any {R : Type} (hO : OracleOk E O) {ops : Array Oper} {S : ASt E} {a : Act} {w : World} {ι : Nat → Option Gh} {ro : Nat → Nat → Prop} (hnc : NoCond S.tmps) (hg : Gam E w0 ro0 S a w ι ro) {k : ASt E → Option R} {rr : R} {Q : Exit → Act → World → Prop}
    (hk : ∀ S' a' w' ι' ro', NoCond S'.tmps → Gam E w0 ro0 S' a' w' ι' ro' → S'.n = S.n → k S' = some rr → Q .normal a' w') (h : evLast O ops S k = some rr) : wpAny P .any ops Q ops.size (Array.replicate ops.size false) a { w with drawn := w.drawn + 1 } := by
  unfold evLast at h
  split at h
  · rename_i l o hl
    unfold lastOf at hl
    split at hl
    · cases hl
    · rename_i o' r hr
      split at hl
      · rename_i hgd
        split at hl
        · rename_i hc
          cases hl
          simp only [Bool.and_eq_true, List.all_eq_true] at hc
          obtain ⟨h1, h2, h3⟩ := hc
          have hops : ops.toList = r.reverse ++ [o] := by rw [← List.reverse_reverse ops.toList, hr, List.reverse_cons]
          have hlen : r.reverse.length = r.length := List.length_reverse
          have hd := evDraw_any (Q := lastQ P ops o Q) (ops := r.reverse.toArray) hO hnc hg (fun S' a' w' ι' ro' g1 g2 g3 g4 => ?_) h
          · have := wpAny_last (Q := Q) hops hgd (by rw [hlen]; exact h1) (by rw [hlen]; exact h2) (fun j hj => by have := h3 j hj; rw [hlen]; simp [Nat.blt] at this; omega) _ _ a _ (by simp) (fun i p _ hd => by
              simp only [Array.getD_eq_getD_getElem?, Array.getElem?_replicate] at hd
              split at hd <;> cases hd) hd
            have e : (Array.replicate r.reverse.toArray.size false).push false = Array.replicate ops.size false := by
              rw [← Array.length_toList (xs := ops), hops]
              simp [Array.replicate_succ]
            rw [e] at this
            have e2 : r.reverse.toArray.size + 1 = ops.size := by rw [← Array.length_toList (xs := ops), hops]; simp
            rw [e2] at this
            exact this
          · exact evSeq_sound (n := S'.n) (glob := S'.tmps) hO g1 (fun S2 a2 w2 ι2 ro2 q1 q2 q3 q4 => hk S2 a2 w2 ι2 ro2 q1 q2 (q3.trans g3) q4) [o] [] S'.objs S'.next a' w' ι' ro' g2 g4
        · cases hl
      · cases hl
  · cases h
theorem evRegR_sound {R : Type} (hO : OracleOk E O) (hY : RndOk E Y) (hmix : P.follows .mixedOrders = true) {S : ASt E} {a : Act} {w : World} {ι : Nat → Option Gh} {ro : Nat → Nat → Prop} (hnc : NoCond S.tmps) (hg : Gam E w0 ro0 S a w ι ro) {k : ASt E → Option R} {rr : R} {Q : Exit → Act → World → Prop} {b dr : Bool} {ops : Array Oper} {id : Nat}
    (hk : ∀ S' a' w' ι' ro', NoCond S'.tmps → Gam E w0 ro0 S' a' w' ι' ro' → S'.n = S.n → k S' = some rr → Q .normal a' w') (h : evRegR b O Y ops dr S k = some rr) : (Code.region id ops dr).wpIn (Wd r) nn P Q a w := by
  unfold evRegR at h
  split at h
  · exact wpIn_region_list (evSeqR_sound hO hY hk ops.toList S.tmps S.objs S.next a w ι ro hnc hg h)
  · split at h
    · rename_i hd
      have fin : ∀ S' a' w' ι' ro', NoCond S'.tmps → Gam E w0 ro0 S' a' w' ι' ro' → S'.n = S.n → normS Y.frc S' k = some rr → Q .normal a' w' := fun S' a' w' ι' ro' h1 h2 h3 h4 => by
        rw [normS_eq] at h4
        obtain ⟨g1, g2⟩ := h2.norm h1
        exact hk _ a' w' ι' ro' g2 g1 h3 h4
      split at h
      · exact region_any (K := Q .normal) hmix hd (evChain_any hO hnc hg (fun S' a' w' ι' ro' h1 h2 h3 h4 => fin S' a' w' ι' ro' h1 h2 h3 h4) h) fun _ _ h => h
      split at h
      · exact region_any (K := Q .normal) hmix hd (evLast_any hO hnc hg (fun S' a' w' ι' ro' h1 h2 h3 h4 => fin S' a' w' ι' ro' h1 h2 h3 h4) h) fun _ _ h => h
      · exact region_any (K := Q .normal) hmix hd (evDraw_any hO hnc hg (fun S' a' w' ι' ro' h1 h2 h3 h4 => fin S' a' w' ι' ro' h1 h2 h3 h4) h) fun _ _ h => h
    · cases h
end
def fnOf : AV E → Option (FuncId × List (AV E) × List (AV E))
  | .fn f p q => some (f, p, q)
  | v => match funcOf v with
    | some f => some (f, [], [])
    | none => none
def isLp : Option (AObj E) → Bool
  | some (.lp _ _ _ _ _ _ _) => true
  | _ => false
def pendK {R : Type} (k : AExit → ASt E → Option R) (S : ASt E) : Option Code → Option R
  | none => k .normal S
  | some .ret => k .ret S
  | some (.exit i) => k (.exit i) S
  | some (.goto l) => k (.goto l) S
  | _ => none
def rangeK {R : Type} (n : Nat) (tm : List (Nat × AV E)) (id : Nat) (k : AExit → ASt E → Option R) (objs : List (Nat × AObj E)) (next : Nat) : Option R := match look objs id with
  | some (.lp st pend _ _ _ _ _) => (match st with
    | .busy => none
    | _ => pendK k ⟨n, tm, (id, .dead) :: objs, next + 1⟩ pend)
  | _ => none
def loopR {R : Type} (fr : Bool) (f : List Nat → ASt E → (List Nat → AExit → ASt E → Option R) → Option R) : Nat → List Nat → ASt E → (List Nat → AExit → ASt E → Option R) → Option R
  | 0, _, _, _ => none
  | m + 1, ms, S, k => f ms S fun ms' e S' => (match e with
    | .normal => normS fr S' fun S' => loopR fr f m ms' S' k
    | .exit i => k ms' (.exit i) S'
    | .ret => k ms' .ret S'
    | .goto l => k ms' (.goto l) S')
def evRC {R : Type} (O : Oracle E) (Y : Rnd E) (h : Hint E) (rd : Option Nat) : Code → List Nat → ASt E → (List Nat → AExit → ASt E → Option R) → Option R
  | .skip, ms, S, k => k ms .normal S
  | .region id ops dr, ms, S, k => evRegR (memN h.lst id) O Y ops dr (openS (atN h.opn id) (match memN h.frz id with | true => freezeS S | false => S)) (k ms .normal)
  | .seq x y, ms, S, k => evRC O Y h rd x ms S fun ms' e S' => (match e with
    | .normal => evRC O Y h rd y ms' S' k
    | .exit i => k ms' (.exit i) S'
    | .ret => k ms' .ret S'
    | .goto l => k ms' (.goto l) S')
  | .cond c x y, ms, S, k => (match getA S.tmps [] c with
    | .d (.bool b) => (match b with
      | true => evRC O Y h rd x ms S k
      | false => evRC O Y h rd y ms S k)
    | _ => none)
  | .block id body, ms, S, k => evRC O Y h rd body ms S fun ms' e S' => blockK id (k ms') e S'
  | .loop b, ms, S, k => loopR Y.frc (evRC O Y h rd b) h.rounds ms S k
  | .exit id, ms, S, k => k ms (.exit id) S
  | .goto l, ms, S, k => k ms (.goto l) S
  | .label _, ms, S, k => k ms .normal S
  | .ret, ms, S, k => k ms .ret S
  | .rangeFunc g ps assign body, ms, S, k => (match fnOf (getA S.tmps [] g) with
    | some (f, p, q) => (match rd with
      | none => O.inl.run f (p ++ (.yl (S.next + 1) :: q)) ((S.next + 1, .lp .ready none S.n S.tmps ps assign body) :: (S.next, .dfr) :: S.objs) (S.next + 2) fun _ objs next => rangeK S.n S.tmps (S.next + 1) (k (S.next :: ms)) objs next
      | some j => (match isLp (look S.objs j) with
        | true => O.inl.run f (p ++ (.yl S.next :: q)) ((S.next, .lp .ready none S.n S.tmps ps assign body) :: S.objs) (S.next + 1) fun _ objs next => rangeK S.n S.tmps S.next (k ms) objs next
        | false => none))
    | none => none)
  | _, _, _, _ => none
end
section
variable {P : Program} {E : Env P} {w0 : Start} {ro0 : Nat → Nat → Prop} {n nx : Nat} {tm : List (Nat × AV E)} {objs : List (Nat × AObj E)} {a : Act} {w : World} {ι : Nat → Option Gh} {ro : Nat → Nat → Prop}
def ghB (g : Nat) : Gh := ⟨undef, 0, 0, 0, some g⟩
theorem Gam.alloc (hg : Gam E w0 ro0 ⟨n, tm, objs, nx⟩ a w ι ro) (hnc : NoCond tm) (o : Obj) (ob : AObj E) (hob : ∀ ι' : Nat → Option Gh, ι' nx = some (ghB w.heap.size) → (∀ id gh, ι id = some gh → ι' id = some gh) → ObjOk E (w.alloc o) ro ι' nx ob) :
    ∃ ι', Gam E w0 ro0 ⟨n, tm, (nx, ob) :: objs, nx + 1⟩ a (w.alloc o) ι' ro ∧ ι' nx = some (ghB w.heap.size) ∧ ∀ id gh, ι id = some gh → ι' id = some gh := by
  have hfr : ι nx = none := hg.fresh nx (Nat.le_refl _)
  let ι' : Nat → Option Gh := fun id => if id = nx then some (ghB w.heap.size) else ι id
  have h1 : ι' nx = some (ghB w.heap.size) := if_pos rfl
  have h2 : ∀ id gh, ι id = some gh → ι' id = some gh := fun id gh h => by
    show (if id = nx then _ else ι id) = _
    rw [if_neg (fun e => by subst e; rw [hfr] at h; cases h)]; exact h
  have hh : ∀ k, k < w.heap.size → (w.alloc o).heap[k]? = w.heap[k]? := fun k hk => Below.heap_alloc w o k hk
  have hs : (w.alloc o).heap.size = w.heap.size + 1 := World.size_alloc _ _
  have hc : ∀ k q, k < w.heap.size → (w.alloc o).cell? ⟨k, q, none⟩ = w.cell? ⟨k, q, none⟩ := fun k q hk => by unfold World.cell?; rw [hh k hk]
  have hp : OpPost E w (w.alloc o) ι ι' ro ro nx { (⟨true, .any, none, some ob⟩ : Res E) with v := .any } undef := {
    os := rfl
    tape := rfl
    output := rfl
    size := by rw [hs]; exact Nat.le_succ _
    frame := fun k hk _ => hh k hk
    cell := fun k q h => hc k q (hg.base.rolt k q h)
    mono := fun _ _ h => h
    rolt := fun k q h => by rw [hs]; exact Nat.lt_succ_of_lt (hg.base.rolt k q h)
    fresh := fun _ _ h => .inl h
    iold := fun id h => if_neg h
    inew := fun gh k h hk => by
      rw [h1] at h
      cases h
      cases hk
      exact ⟨by rw [hs]; exact Nat.lt_succ_self _, .inl (Nat.le_refl _)⟩
    nonew := fun h => by cases h
    upd := fun id o h => by cases h
    new := fun o h => by cases h; exact hob ι' h1 h2
    val := .any _ }
  exact ⟨ι', gam_step (loc := []) (glob := tm) (d := none) hg hnc rfl (fun id o h => by cases h) hp (fun _ _ => .any _), h1, h2⟩
theorem Gam.putOwn (hg : Gam E w0 ro0 ⟨n, tm, objs, nx⟩ a w ι ro) (hnc : NoCond tm) {id g : Nat} {gh : Gh} {ob x : AObj E} {o o' : Obj} (hl : look objs id = some ob) (hlive : ob.live = true) (hi : ι id = some gh) (hb : gh.blk = some g) (ho : w.heap[g]? = some o) (h1 : o.isCells = false) (h2 : o'.isCells = false)
    (hx : ObjOk E (w.putObj g o') ro ι id x) : Gam E w0 ro0 ⟨n, tm, (id, x) :: objs, nx + 1⟩ a (w.putObj g o') ι ro := by
  have hfr : ι nx = none := hg.fresh nx (Nat.le_refl _)
  have hp : OpPost E w (w.putObj g o') ι ι ro ro nx { (⟨true, .any, some (id, x), none⟩ : Res E) with v := .any } undef := {
    os := rfl
    tape := rfl
    output := rfl
    size := by rw [World.putObj_size]; exact Nat.le_refl _
    frame := fun k hk h => World.putObj_heap_other (fun e => by subst e; exact h id x gh rfl hi hb)
    cell := fun k q _ => cell_putObj w ho h1 h2 k q
    mono := fun _ _ h => h
    rolt := fun k q h => by rw [World.putObj_size]; exact hg.base.rolt k q h
    fresh := fun _ _ h => .inl h
    iold := fun _ _ => rfl
    inew := fun gh k h _ => by rw [hfr] at h; cases h
    nonew := fun _ => rfl
    upd := fun id o h => by cases h; exact hx
    new := fun o h => by cases h
    val := .any _ }
  exact gam_step (loc := []) (glob := tm) (d := none) hg hnc rfl (fun id o h => by cases h; exact ⟨ob, hl, hlive⟩) hp (fun _ _ => .any _)
theorem Gam.restart (hg : Gam E w0 ro0 ⟨n, tm, objs, nx⟩ a w ι ro) {a' : Act} (ht : a'.tmps = a.tmps) : Gam E ⟨w0.w, w0.x, some ⟨w, ro, ι⟩, a'.defers, w0.h⟩ ro0 ⟨n, tm, objs, nx⟩ a' w ι ro := by
  obtain ⟨t', d'⟩ := a'
  have ht : t' = a.tmps := ht
  subst ht
  exact ⟨⟨hg.base.below, hg.base.rolt, hg.base.ronew, hg.base.ilt, rfl, (fun q hq => by cases hq; exact ⟨fun k o h => ⟨h, rfl⟩, fun _ _ h => h⟩), hg.base.held⟩, hg.size, hg.tmps, hg.objs, hg.inj, hg.fresh, hg.ids⟩
def MkOk (ι : Nat → Option Gh) : List Nat → List Deferred → Prop
  | [], [] => True
  | i :: ms, d :: dl => (∃ gh g, ι i = some gh ∧ gh.blk = some g ∧ d = { target := .collected g, args := #[] }) ∧ MkOk ι ms dl
  | _, _ => False
theorem MkOk.mono {ι ι' : Nat → Option Gh} (h : ∀ id gh, ι id = some gh → ι' id = some gh) : ∀ {ms : List Nat} {dl : List Deferred}, MkOk ι ms dl → MkOk ι' ms dl
  | [], [], _ => trivial
  | _ :: _, _ :: _, ⟨⟨gh, g, h1, h2, h3⟩, hr⟩ => ⟨⟨gh, g, h _ _ h1, h2, h3⟩, hr.mono h⟩
def KLe (k0 : Option Keep) (q : Keep) : Prop := ∀ q0, k0 = some q0 → (∀ k o, q0.ro k o → q.ro k o ∧ q.w.cell? ⟨k, o, none⟩ = q0.w.cell? ⟨k, o, none⟩) ∧ ∀ id gh, q0.ι id = some gh → q.ι id = some gh
def RdOk : Option Nat → Option Nat → (Nat → Option Gh) → Prop
  | none, none, _ => True
  | some j, some l, ι => ∃ gh, ι j = some gh ∧ gh.blk = some l
  | _, _, _ => False
theorem RdOk.mono {ι ι' : Nat → Option Gh} (h : ∀ id gh, ι id = some gh → ι' id = some gh) : ∀ {rd r : Option Nat}, RdOk rd r ι → RdOk rd r ι'
  | none, none, _ => trivial
  | some _, some _, ⟨gh, h1, h2⟩ => ⟨gh, h _ _ h1, h2⟩
def GamM (E : Env P) (w0 : Start) (ro0 : Nat → Nat → Prop) (rd r : Option Nat) (ms : List Nat) (S : ASt E) (a : Act) (w : World) (ι : Nat → Option Gh) (ro : Nat → Nat → Prop) : Prop :=
  ∃ dl q, Gam E ⟨w0.w, w0.x, some q, dl, w0.h⟩ ro0 S a w ι ro ∧ KLe w0.k q ∧ MkOk q.ι ms dl ∧ RdOk rd r q.ι
theorem KLe.step {k0 : Option Keep} {q q' : Keep} (h : KLe k0 q) (h1 : ∀ k o, q.ro k o → q'.ro k o ∧ q'.w.cell? ⟨k, o, none⟩ = q.w.cell? ⟨k, o, none⟩) (h2 : ∀ id gh, q.ι id = some gh → q'.ι id = some gh) : KLe k0 q' := fun q0 hq => by
  obtain ⟨p1, p2⟩ := h q0 hq
  exact ⟨fun k o hk => ⟨(h1 k o (p1 k o hk).1).1, (h1 k o (p1 k o hk).1).2.trans (p1 k o hk).2⟩, fun id gh hi => h2 id gh (p2 id gh hi)⟩
end
section
variable {P : Program} {E : Env P} {O : Oracle E} {Y : Rnd E} {w0 : Start} {ro0 : Nat → Nat → Prop} {n nn : Nat} {rd r : Option Nat}
theorem fnOf_inv {S : ASt E} {a : Act} {w : World} {ι : Nat → Option Gh} {ro : Nat → Nat → Prop} (c : Ctx E S [] a w ι ro) {g : Operand} {f : FuncId} {p q : List (AV E)} (h : fnOf (getA S.tmps [] g) = some (f, p, q)) :
    ∃ vs us, a.eval g = .func (.func f) vs us ∧ vs.size = p.length ∧ us.size = q.length ∧ (∀ (j : Nat) v c, vs[j]? = some v → p[j]? = some c → Rep E w ro ι v c) ∧ (∀ (j : Nat) v c, us[j]? = some v → q[j]? = some c → Rep E w ro ι v c) := by
  have hx := c.get g
  unfold fnOf at h
  split at h
  · rename_i f' p' q' heq
    cases h
    rw [heq] at hx
    generalize hvx : a.eval g = vx at hx
    cases hx with
    | fn _ vs us _ _ h1 h2 h3 h4 => exact ⟨vs, us, rfl, h1, h2, h3, h4⟩
  · split at h
    · rename_i f' hf
      cases h
      unfold funcOf at hf
      split at hf
      · rename_i heq
        cases hf
        rw [heq] at hx
        exact ⟨#[], #[], hx.raw_inv, rfl, rfl, fun j v c hv => by simp at hv, fun j v c hv => by simp at hv⟩
      · cases hf
    · cases h
theorem range_call {g : Operand} {a : Act} {w : World} {f : FuncId} {vs us : Array Value} (hv : a.eval g = .func (.func f) vs us) (h : ∃ fn, P.funcs[f]? = some fn ∧ (fn.name == "runtime.NumGoroutine") = false ∧ fn.body.isNone = false) (l : Nat) :
    ∃ d, (resolve a.eval (rangeCall g l) 0).run P w = .ok d w ∧ (invoke d.target d.args).run P w = .ok (.enter f (vs.toList ++ ([Value.func (.yield l) #[] #[]] ++ us.toList)).toArray) w := by
  obtain ⟨fn, hfn, hname, hbody⟩ := h
  have hn : ¬ fn.name = "runtime.NumGoroutine" := by intro e; rw [e] at hname; simp at hname
  have hb : ¬ fn.body = none := by intro e; rw [e] at hbody; simp at hbody
  have e1 : (vs ++ #[Value.func (.yield l) #[] #[]]) ++ us = (vs.toList ++ ([Value.func (.yield l) #[] #[]] ++ us.toList)).toArray := by
    apply Array.ext'
    simp
  refine ⟨{ target := .fn (.func f) us, args := vs ++ #[Value.func (.yield l) #[] #[]] }, ?_, ?_⟩
  · have e2 : a.eval (.const (.func (.yield l) #[] #[])) = .func (.yield l) #[] #[] := rfl
    simp [resolve, hv, Deferred.ofValue, e2]
  · simp only [invoke, callFunc, e1]
    simp [hfn, hn, hb, program, Sem.run]
theorem range_end {l : Nat} {n : Nat} {tm : List (Nat × AV E)} {id next : Nat} {objs : List (Nat × AObj E)} {R : Type} {k : AExit → ASt E → Option R} {rr : R} {w1 : Start} {a : Act} {w : World} {ι : Nat → Option Gh} {ro : Nat → Nat → Prop} (hnc : NoCond tm)
    (hg : Gam E w1 ro0 ⟨n, tm, objs, next⟩ a w ι ro) {gh : Gh} (hi : ι id = some gh) (hb : gh.blk = some l) (h : rangeK n tm id k objs next = some rr) {Q : Exit → Act → World → Prop}
    (hk : ∀ e S' a' w' ι' ro', NoCond S'.tmps → Gam E w1 ro0 S' a' w' ι' ro' → S'.n = n → k e S' = some rr → Q e.toExit a' w') :
    ∃ jump w4, (Instr.endLoop l).run P w = .ok jump w4 ∧ (match jump with | none => Q .normal a w4 | some c => c.wpIn (Wd r) nn P Q a w4) := by
  unfold rangeK at h
  split at h
  · rename_i st pend n' tm' ps as_ bd hl
    obtain ⟨gh', g, rec, h1, h2, h3, ⟨hs1, hs2, _⟩, _⟩ := hg.objs id _ hl
    rw [hi] at h1
    cases h1
    rw [hb] at h2
    cases h2
    have nb : st ≠ .busy → rec.state ≠ .busy := fun q => by rw [hs1]; exact q
    have fin : st ≠ .busy → (Instr.endLoop l).run P w = .ok pend (w.putObj l (.loop { rec with state := .exhausted })) ∧ Gam E w1 ro0 ⟨n, tm, (id, .dead) :: objs, next + 1⟩ a (w.putObj l (.loop { rec with state := .exhausted })) ι ro := fun q =>
      ⟨by rw [← hs2]; exact run_endLoop h3 (nb q), hg.putOwn hnc hl rfl hi hb h3 rfl rfl trivial⟩
    have go : st ≠ .busy → pendK k ⟨n, tm, (id, .dead) :: objs, next + 1⟩ pend = some rr → ∃ jump w4, (Instr.endLoop l).run P w = .ok jump w4 ∧ (match jump with | none => Q .normal a w4 | some c => c.wpIn (Wd r) nn P Q a w4) := fun q h => by
      obtain ⟨f1, f2⟩ := fin q
      refine ⟨_, _, f1, ?_⟩
      unfold pendK at h
      split at h
      · exact hk .normal _ a _ ι ro hnc f2 rfl h
      · exact wpIn_ret (hk .ret _ a _ ι ro hnc f2 rfl h)
      · exact wpIn_exit (hk (.exit _) _ a _ ι ro hnc f2 rfl h)
      · exact wpIn_goto (hk (.goto _) _ a _ ι ro hnc f2 rfl h)
      · cases h
    cases st with
    | busy => cases h
    | ready => exact go (by decide) h
    | done => exact go (by decide) h
    | exhausted => exact go (by decide) h
  · cases h
theorem evRC_sound {R : Type} (hO : OracleOk E O) (hY : RndOk E Y) (hmix : P.follows .mixedOrders = true) {h : Hint E} {rr : R} :
    ∀ (c : Code) (ms : List Nat) (S : ASt E) (k : List Nat → AExit → ASt E → Option R) (Q : Exit → Act → World → Prop) (a : Act) (w : World) (ι : Nat → Option Gh) (ro : Nat → Nat → Prop),
    NoCond S.tmps → GamM E w0 ro0 rd r ms S a w ι ro → S.n = n → evRC O Y h rd c ms S k = some rr →
    (∀ ms' e S' a' w' ι' ro', NoCond S'.tmps → GamM E w0 ro0 rd r ms' S' a' w' ι' ro' → S'.n = n → k ms' e S' = some rr → Q e.toExit a' w') → c.wpIn (Wd r) nn P Q a w := by
  intro c
  induction c generalizing nn with
  | skip => intro ms S k Q a w ι ro hnc hg hn h hk; exact wpIn_skip (hk ms .normal S a w ι ro hnc hg hn h)
  | ret => intro ms S k Q a w ι ro hnc hg hn h hk; exact wpIn_ret (hk ms .ret S a w ι ro hnc hg hn h)
  | exit id => intro ms S k Q a w ι ro hnc hg hn h hk; exact wpIn_exit (hk ms (.exit id) S a w ι ro hnc hg hn h)
  | label l => intro ms S k Q a w ι ro hnc hg hn h hk; exact wpIn_label (hk ms .normal S a w ι ro hnc hg hn h)
  | goto l => intro ms S k Q a w ι ro hnc hg hn h hk; exact wpIn_goto (hk ms (.goto l) S a w ι ro hnc hg hn h)
  | region id ops draw =>
    intro ms S k Q a w ι ro hnc hg hn hh hk
    obtain ⟨dl, q, g, hq1, hq2, hq3⟩ := hg
    have go : ∀ (S : ASt E) (ro : Nat → Nat → Prop), NoCond S.tmps → Gam E ⟨w0.w, w0.x, some q, dl, w0.h⟩ ro0 S a w ι ro → S.n = n → evRegR (memN h.lst id) O Y ops draw S (k ms .normal) = some rr → (Code.region id ops draw).wpIn (Wd r) nn P Q a w := fun S ro hnc g hn hr =>
      evRegR_sound hO hY hmix hnc g (fun S' a' w' ι' ro' h1 h2 h3 h4 => hk ms .normal S' a' w' ι' ro' h1 ⟨dl, q, h2, hq1, hq2, hq3⟩ (h3.trans hn) h4) hr
    simp only [evRC] at hh
    split at hh
    · obtain ⟨h1, h2⟩ := freezeS_sound hnc g
      obtain ⟨ro1, g1, g2, g3⟩ := openS_sound (atN h.opn id) (freezeS S) _ h1 h2
      exact go _ ro1 g1 g2 (g3.trans hn) hh
    · obtain ⟨ro1, g1, g2, g3⟩ := openS_sound (atN h.opn id) S ro hnc g
      exact go _ ro1 g1 g2 (g3.trans hn) hh
  | seq x y ihx ihy =>
    intro ms S k Q a w ι ro hnc hg hn h hk
    refine wpIn_seq (ihx ms S _ _ a w ι ro hnc hg hn h fun ms' e S' a' w' ι' ro' h1 h2 h3 h4 => ?_)
    cases e with
    | normal => exact ihy ms' S' k Q a' w' ι' ro' h1 h2 h3 h4 hk
    | exit id => exact hk ms' (.exit id) S' a' w' ι' ro' h1 h2 h3 h4
    | goto l => exact hk ms' (.goto l) S' a' w' ι' ro' h1 h2 h3 h4
    | ret => exact hk ms' .ret S' a' w' ι' ro' h1 h2 h3 h4
  | cond c x y ihx ihy =>
    intro ms S k Q a w ι ro hnc hg hn h hk
    obtain ⟨dl, q, g, _⟩ := id hg
    have hc := getA_rep (E := E) (asm := []) g.tmps (fun j b hb => by simp [hasAsm] at hb) c
    simp only [evRC] at h
    split at h
    · rename_i b hb
      rw [hb] at hc
      have hc := hc.bool_inv
      cases b with
      | true => exact wpIn_cond_true hc (ihx ms S k Q a w ι ro hnc hg hn h hk)
      | false => exact wpIn_cond_false hc (ihy ms S k Q a w ι ro hnc hg hn h hk)
    · cases h
  | block id body ih =>
    intro ms S k Q a w ι ro hnc hg hn h hk
    refine wpIn_block (ih ms S _ _ a w ι ro hnc hg hn h fun ms' e S' a' w' ι' ro' h1 h2 h3 h4 => ?_)
    cases e with
    | normal => exact hk ms' .normal S' a' w' ι' ro' h1 h2 h3 h4
    | goto l => exact hk ms' (.goto l) S' a' w' ι' ro' h1 h2 h3 h4
    | ret => exact hk ms' .ret S' a' w' ι' ro' h1 h2 h3 h4
    | exit i =>
      simp only [AExit.toExit, Exit.inBlock, blockK] at h4 ⊢
      cases hb : Nat.beq i id with
      | true =>
        rw [hb] at h4
        rw [if_pos (Nat.eq_of_beq_eq_true hb)]
        exact hk ms' .normal S' a' w' ι' ro' h1 h2 h3 h4
      | false =>
        rw [hb] at h4
        rw [if_neg (fun e => by subst e; simp at hb)]
        exact hk ms' (.exit i) S' a' w' ι' ro' h1 h2 h3 h4
  | loop body ih =>
    intro ms S k Q a w ι ro hnc hg hn hh hk
    have rounds : ∀ (f : Nat) (ms : List Nat) (S : ASt E) (a : Act) (w : World) (ι : Nat → Option Gh) (ro : Nat → Nat → Prop), NoCond S.tmps → GamM E w0 ro0 rd r ms S a w ι ro → S.n = n → loopR Y.frc (evRC O Y h rd body) f ms S k = some rr → Code.roundsIn (Wd r) nn P body Q f a w := by
      intro f
      induction f with
      | zero => intro ms S a w ι ro _ _ _ h; cases h
      | succ f ihf =>
        intro ms S a w ι ro hnc hg hn h
        refine ih ms S _ _ a w ι ro hnc hg hn h fun ms' e S' a' w' ι' ro' h1 h2 h3 h4 => ?_
        cases e with
        | normal =>
          have h4 : normS Y.frc S' (fun S' => loopR Y.frc (evRC O Y _ rd body) f ms' S' k) = some rr := h4
          rw [normS_eq] at h4
          obtain ⟨dl, q, g, q1, q2, q3⟩ := h2
          obtain ⟨g1, g2⟩ := g.norm h1
          exact ihf ms' _ a' w' ι' ro' g2 ⟨dl, q, g1, q1, q2, q3⟩ h3 h4
        | exit id => exact hk ms' (.exit id) S' a' w' ι' ro' h1 h2 h3 h4
        | goto l => exact hk ms' (.goto l) S' a' w' ι' ro' h1 h2 h3 h4
        | ret => exact hk ms' .ret S' a' w' ι' ro' h1 h2 h3 h4
    exact wpIn_loop_rounds _ (rounds _ ms S a w ι ro hnc hg hn hh)
  | rangeFunc g ps assign body _ _ =>
    intro ms S k Q a w ι ro hnc hg hn hh hk
    obtain ⟨Sn, Stm, Sob, Snx⟩ := S
    have hn : Sn = n := hn
    obtain ⟨dl, q, gm, hq1, hq2, hq3⟩ := hg
    have c : Ctx E ⟨Sn, Stm, Sob, Snx⟩ [] a w ι ro := ⟨gm.tmps, fun j b hb => by simp [hasAsm] at hb, gm.base.rolt, gm.objs, gm.fresh _ (Nat.le_refl _)⟩
    simp only [evRC] at hh
    split at hh
    · rename_i f p q' hf
      obtain ⟨vs, us, hv, hp1, hq1', hp2, hq2'⟩ := fnOf_inv c hf
      -- the call of the function that is ranged over
      have call : ∀ (l : Nat) (id : Nat) (ms' : List Nat) (dl' : List Deferred) (rec : Loop) (w1 : World) (ι1 : Nat → Option Gh) (objs1 : List (Nat × AObj E)) (nx1 : Nat) (gh : Gh), ι1 id = some gh → gh.blk = some l → (∀ id gh, ι id = some gh → ι1 id = some gh) →
          (∀ k o, ro k o → w1.cell? ⟨k, o, none⟩ = w.cell? ⟨k, o, none⟩) →
          Gam E ⟨w0.w, w0.x, some q, dl, w0.h⟩ ro0 ⟨Sn, Stm, objs1, nx1⟩ a w1 ι1 ro → MkOk ι1 ms' (dl' ++ dl) →
          O.inl.run f (p ++ (.yl id :: q')) objs1 nx1 (fun _ objs next => rangeK Sn Stm id (k ms') objs next) = some rr →
          (∃ fn, P.funcs[f]? = some fn ∧ (fn.name == "runtime.NumGoroutine") = false ∧ fn.body.isNone = false) ∧
          CallsIn (Wd r) (nn - 1) P f (vs.toList ++ ([Value.func (.yield l) #[] #[]] ++ us.toList)).toArray w1 (rangePost (Wd r) nn P l Q { a with defers := dl' ++ a.defers }) := by
        intro l id ms' dl' rec w1 ι1 objs1 nx1 gh hi hb hext hcell g1 hmk hrun
        obtain ⟨hfn, hcalls⟩ := hO.2.2.2.2.1 _ _ _ _ _ _ hrun
        refine ⟨hfn, callsIn_wd.2 ?_⟩
        have hd : a.defers = dl := gm.base.defers
        have g2 := g1.restart (a' := { a with defers := dl' ++ a.defers }) rfl
        refine (hcalls _ ro0 _ w1 ι1 ro _ g2.base g2.objs g2.inj g2.fresh g2.ids (by simp [hp1, hq1']) fun i v x hv hx => ?_).mono fun e w' he => ?_
        · refine app_rep (w := w1) (ι := ι1) (by simpa using hp1) (fun j v c h1 h2 => (hp2 j v c (by simpa using h1) h2).mono (fun _ _ h => h) hcell hext) (app_rep (p := [.yl id]) (by simp) (fun j v x h1 h2 => ?_) fun j v c h1 h2 => (hq2' j v c (by simpa using h1) h2).mono (fun _ _ h => h) hcell hext) i v x hv hx
          cases j with
          | zero => simp at h1 h2; subst h1; subst h2; exact .yl gh l id hi hb
          | succ j => simp at h1
        · obtain ⟨v, x, objs', next', ι', ro', rfl, hk', hv', hb', ho, hi', hfr, hids, hkeep, hext'⟩ := he
          have g3 := gam_in (loc := []) (glob := Stm) (d := none) (x := .any) (val := undef) (n := Sn) g2 hnc rfl rfl (.any _) hb' ho hi' hfr hids hkeep hext'
          refine range_end hnc g3 (hext' _ _ hi) hb hk' fun e S' a' w' ι'' ro'' h1 h2 h3 h4 => ?_
          refine hk ms' e S' a' w' ι'' ro'' h1 ⟨_, _, h2, hq1.step (fun k o h => ?_) (fun id gh h => ?_), ?_, ?_⟩ (h3.trans hn) h4
          · exact (g1.base.keep q rfl).1 k o h
          · exact (g1.base.keep q rfl).2 id gh h
          · show MkOk ι1 ms' (dl' ++ a.defers)
            rw [hd]; exact hmk
          · exact hq3.mono (g1.base.keep q rfl).2
      cases rd with
      | none => -- an outermost loop
        have hr : r = none := by
          cases r with
          | none => rfl
          | some l => exact hq3.elim
        subst hr
        simp only at hh
        refine wpIn_rangeFunc fun fn _ => ?_
        let rec0 : Loop := { state := .ready, pending := none, fn := fn, tmps := a.tmps, params := ps, assign := assign, body := body, defers := w.heap.size }
        obtain ⟨ι1, g1, e1, x1⟩ := gm.alloc hnc (.deferred (some [])) .dfr (fun ι' h1 _ => ⟨_, w.heap.size, h1, rfl, World.alloc_heap_new w _⟩)
        have hs1 : (w.alloc (.deferred (some []))).heap.size = w.heap.size + 1 := World.size_alloc _ _
        have hsz : a.tmps.size = Sn := gm.size
        obtain ⟨ι2, g2, e2, x2⟩ := g1.alloc hnc (.loop rec0) (.lp .ready none Sn Stm ps assign body) (fun ι' h1 h2 => ⟨_, (w.alloc (.deferred (some []))).heap.size, rec0, h1, rfl, World.alloc_heap_new _ _, ⟨rfl, rfl, rfl, rfl, rfl, hsz⟩, fun t x hl => by
          obtain ⟨v, q1, q2⟩ := g1.tmps t x hl
          refine ⟨v, q1, ?_⟩
          have hc0 : isCond x = false := hnc _ (look_mem _ _ _ hl)
          have q2 : Rep E (w.alloc (.deferred (some []))) ro ι1 v x := by cases x <;> first | exact q2 | cases hc0
          exact q2.mono (fun _ _ h => h) (fun k o h => by
            have hk := g1.base.rolt k o h
            unfold World.cell?
            rw [Below.heap_alloc _ _ k hk]) h2⟩)
        rw [hs1] at e2
        have hcell : ∀ k o, ro k o → ((w.alloc (.deferred (some []))).alloc (.loop rec0)).cell? ⟨k, o, none⟩ = w.cell? ⟨k, o, none⟩ := fun k o h => by
          have hk := gm.base.rolt k o h
          unfold World.cell?
          rw [Below.heap_alloc _ _ k (by rw [hs1]; omega), Below.heap_alloc _ _ k hk]
        obtain ⟨hfn, hc⟩ := call (w.heap.size + 1) (Snx + 1) (Snx :: ms) [{ target := .collected w.heap.size, args := #[] }] rec0 _ ι2 _ _ _ e2 rfl (fun id gh h => x2 id gh (x1 id gh h)) hcell g2
          ⟨⟨_, w.heap.size, x2 _ _ e1, rfl, rfl⟩, hq2.mono fun id gh h => x2 id gh (x1 id gh ((gm.base.keep q rfl).2 id gh h))⟩ hh
        obtain ⟨d, r1, r2⟩ := range_call (w := (w.alloc (.deferred (some []))).alloc (.loop rec0)) hv hfn (w.heap.size + 1)
        exact ⟨w.heap.size + 1, [{ target := .collected w.heap.size, args := #[] }], _, d, _, f, _, _, run_enterLoop_outer fn a.tmps ps assign body, r1, fun _ _ => trivial, r2, fun h => (by cases h), hc⟩
      | some j => -- a loop within a round
        simp only at hh
        split at hh
        · rename_i hlp
          cases r with
          | none => exact hq3.elim
          | some lr =>
          obtain ⟨ghr, hr1, hr2⟩ := hq3
          have hlr : ∃ recr, w.heap[lr]? = some (.loop recr) := by
            unfold isLp at hlp
            split at hlp
            · rename_i st pend n' tm' ps' as' bd' hl
              obtain ⟨gh', g', rec', p1, p2, p3, _⟩ := gm.objs j _ hl
              rw [(gm.base.keep q rfl).2 _ _ hr1] at p1
              cases p1
              rw [hr2] at p2
              cases p2
              exact ⟨rec', p3⟩
            · cases hlp
          obtain ⟨recr, hlr⟩ := hlr
          refine wpIn_rangeFunc fun fn _ => ?_
          let rec0 : Loop := { state := .ready, pending := none, fn := fn, tmps := a.tmps, params := ps, assign := assign, body := body, defers := recr.defers }
          have hsz : a.tmps.size = Sn := gm.size
          obtain ⟨ι2, g2, e2, x2⟩ := gm.alloc hnc (.loop rec0) (.lp .ready none Sn Stm ps assign body) (fun ι' h1 h2 => ⟨_, w.heap.size, rec0, h1, rfl, World.alloc_heap_new _ _, ⟨rfl, rfl, rfl, rfl, rfl, hsz⟩, fun t x hl => by
            obtain ⟨v, q1, q2⟩ := gm.tmps t x hl
            refine ⟨v, q1, ?_⟩
            have hc0 : isCond x = false := hnc _ (look_mem _ _ _ hl)
            have q2 : Rep E w ro ι v x := by cases x <;> first | exact q2 | cases hc0
            exact q2.mono (fun _ _ h => h) (fun k o h => by
              have hk := gm.base.rolt k o h
              unfold World.cell?
              rw [Below.heap_alloc _ _ k hk]) h2⟩)
          have hcell : ∀ k o, ro k o → (w.alloc (.loop rec0)).cell? ⟨k, o, none⟩ = w.cell? ⟨k, o, none⟩ := fun k o h => by
            have hk := gm.base.rolt k o h
            unfold World.cell?
            rw [Below.heap_alloc _ _ k hk]
          obtain ⟨hfn, hc⟩ := call w.heap.size Snx ms [] rec0 _ ι2 _ _ _ e2 rfl x2 hcell g2 (hq2.mono fun id gh h => x2 id gh ((gm.base.keep q rfl).2 id gh h)) hh
          obtain ⟨d, r1, r2⟩ := range_call (w := w.alloc (.loop rec0)) hv hfn w.heap.size
          refine ⟨w.heap.size, [], _, d, _, f, _, _, ?_, r1, fun _ _ => trivial, r2, fun h => (by cases h), hc⟩
          show (Instr.enterLoop fn a.tmps ps assign body (some lr)).run P w = _
          unfold Instr.enterLoop
          simp only [Sem.run_bind, run_getLoop hlr, run_newObj_alloc, Result.andThen, Sem.run_pure]
          rfl
        · cases hh
    · cases hh
  | _ => intro ms S k Q a w ι ro hnc hg hn h hk; cases h
end
section
variable {P : Program} {E : Env P}
def bindP (n : Nat) : List Nat → List (AV E) → List (Nat × AV E) → Option (List (Nat × AV E))
  | [], [], tm => some tm
  | p :: ps, v :: vs, tm => (match Nat.blt p n && !(isCond v) with
    | true => bindP n ps vs ((p, v) :: tm)
    | false => none)
  | _, _, _ => none
def endRnd {R : Type} (id : Nat) (k : AV E → List (Nat × AObj E) → Nat → Option R) (ms : List Nat) (e : AExit) (S : ASt E) : Option R := match ms with
  | _ :: _ => none
  | [] => (match look S.objs id with
    | some (.lp _ _ n tm ps as_ bd) => (match e with
      | .normal => k (.d (.bool true)) ((id, .lp .ready none n tm ps as_ bd) :: S.objs) (S.next + 1)
      | .ret => k (.d (.bool false)) ((id, .lp .done (some .ret) n tm ps as_ bd) :: S.objs) (S.next + 1)
      | .exit i => k (.d (.bool false)) ((id, .lp .done (some (.exit i)) n tm ps as_ bd) :: S.objs) (S.next + 1)
      | .goto l => k (.d (.bool false)) ((id, .lp .done (some (.goto l)) n tm ps as_ bd) :: S.objs) (S.next + 1))
    | _ => none)
def midRnd {R : Type} (O : Oracle E) (Y : Rnd E) (h : Hint E) (id : Nat) (body : Code) (k : AV E → List (Nat × AObj E) → Nat → Option R) (ms : List Nat) (e : AExit) (S1 : ASt E) : Option R := match ms, e with
  | [], .normal => (match look S1.objs id with
    | some (.lp .ready pend n tm ps as_ bd) => evRC O Y h (some id) body [] ⟨S1.n, S1.tmps, (id, .lp .busy pend n tm ps as_ bd) :: S1.objs, S1.next + 1⟩ (endRnd id k)
    | _ => none)
  | _, _ => none
def rndRun {R : Type} (O : Oracle E) (Y : Rnd E) (h : Hint E) (id : Nat) (args : List (AV E)) (objs : List (Nat × AObj E)) (next : Nat) (k : AV E → List (Nat × AObj E) → Nat → Option R) : Option R := match look objs id with
  | some (.lp .ready _ n tm ps assign body) => (match tm.all (fun p => !(isCond p.2)), bindP n ps.toList args tm with
    | true, some tm' => evRC O Y h (some id) assign [] ⟨n, tm', objs, next⟩ (midRnd O Y h id body k)
    | _, _ => none)
  | _ => none
def killM : List Nat → ASt E → Option (ASt E)
  | [], S => some S
  | i :: ms, S => match look S.objs i with
    | some .dfr => killM ms ⟨S.n, S.tmps, (i, .dead) :: S.objs, S.next + 1⟩
    | _ => none
def isEnd : AExit → Bool
  | .normal => true
  | .ret => true
  | _ => false
def endR {R : Type} (fn : Func) (k : AV E → List (Nat × AObj E) → Nat → Option R) (ms : List Nat) (e : AExit) (S : ASt E) : Option R := match isEnd e, killM ms S with
  | true, some S' => endI fn k .ret S'
  | _, _ => none
def hasSc : Code → Bool
  | .seq a b => hasSc a || hasSc b
  | .cond _ a b => hasSc a || hasSc b
  | .block _ b => hasSc b
  | .loop b => hasSc b
  | .scope _ => true
  | _ => false
def inlRun {R : Type} (O : Oracle E) (Y : Rnd E) (h : Hint E) (fn : Func) (args : List (AV E)) (objs : List (Nat × AObj E)) (next : Nat) (k : AV E → List (Nat × AObj E) → Nat → Option R) : Option R := match fn.body with
  | some c => (match hasSc c with
    | true => evU O h h.rounds c (startI fn args objs next) (endI fn k)
    | false => evRC O Y h none c [] (startI fn args objs next) (endR fn k))
  | none => none
def endT (fn : Func) (ms : List Nat) (e : AExit) (S : ASt E) : Option (List (TV E)) := match isEnd e, killM ms S with
  | true, some S' => endK fn .ret S'
  | _, _ => none
def runT (O : Oracle E) (Y : Rnd E) (h : Hint E) (fn : Func) (args : List (TV E)) : Option (List (TV E)) := match fn.body with
  | some c => (match hasSc c with
    | true => evU O h h.rounds c (startS fn args) (endK fn)
    | false => evRC O Y h none c [] (startS fn args) (endT fn))
  | none => none
def closeS (fn : Func) (S : ASt E) : Option (AV E) := match valsA (freezeS S) fn.results.toList with
  | some [v] => clsA v
  | some vs => (match clsAs vs with
    | some l => some (.tup l)
    | none => none)
  | none => none
def endCU (fn : Func) (e : AExit) (S : ASt E) : Option (AV E) := match isEnd e with
  | true => closeS fn S
  | false => none
def endC (fn : Func) (ms : List Nat) (e : AExit) (S : ASt E) : Option (AV E) := match isEnd e, killM ms S with
  | true, some S' => closeS fn S'
  | _, _ => none
def runC (O : Oracle E) (Y : Rnd E) (h : Hint E) (fn : Func) (args : List (AV E)) : Option (AV E) := match fn.body with
  | some c => (match hasSc c with
    | true => evU O h h.rounds c (startI fn args [] 0) (endCU fn)
    | false => evRC O Y h none c [] (startI fn args [] 0) (endC fn))
  | none => none
def lev (B : Oracle E) (tr ti : List (FuncId × Func)) (hs : List (FuncId × Hint E)) (hr : Hint E) : Nat → Oracle E × Rnd E
  | 0 => ({ B with inl := .nil }, .nil)
  | d + 1 => ({ B with
      call := fun f xs => match look tr f with
        | some fn => (match runT (lev B tr ti hs hr d).1 (lev B tr ti hs hr d).2 (hintOf hs f) fn xs with
          | some r => some (true, r)
          | none => none)
        | none => B.call f xs
      cl := fun f xs => match look tr f with
        | some fn => runC (lev B tr ti hs hr d).1 (lev B tr ti hs hr d).2 (hintOf hs f) fn xs
        | none => B.cl f xs
      inl := ⟨fun f => (look ti f).isSome, fun f args objs next k => match look ti f with
        | some fn => inlRun (lev B tr ti hs hr d).1 (lev B tr ti hs hr d).2 (hintOf hs f) fn args objs next k
        | none => none⟩ },
    ⟨hr.lst.isEmpty, fun id args objs next k => rndRun (lev B tr ti hs hr d).1 (lev B tr ti hs hr d).2 hr id args objs next k⟩)
end
section
variable {P : Program} {E : Env P} {O : Oracle E} {Y : Rnd E} {w0 : Start} {ro0 : Nat → Nat → Prop} {n nn : Nat} {rd r : Option Nat}
theorem GamM.out {ms : List Nat} {S : ASt E} {a a' : Act} {w w' : World} {ι ι' : Nat → Option Gh} {ro ro' : Nat → Nat → Prop} {dl0 : List Deferred} (hb : Base w0 ro0 a w ι ro) (h : GamM E ⟨w0.w, w0.x, some ⟨w, ro, ι⟩, dl0, w0.h⟩ ro0 rd r ms S a' w' ι' ro') :
    Base w0 ro0 a w' ι' ro' ∧ (∀ k o, ro k o → ro' k o ∧ w'.cell? ⟨k, o, none⟩ = w.cell? ⟨k, o, none⟩) ∧ ∀ id gh, ι id = some gh → ι' id = some gh := by
  obtain ⟨dl, q, g, h1, _, _⟩ := h
  obtain ⟨p1, p2⟩ := h1 _ rfl
  obtain ⟨q1, q2⟩ := g.base.keep q rfl
  have k1 : ∀ k o, ro k o → ro' k o ∧ w'.cell? ⟨k, o, none⟩ = w.cell? ⟨k, o, none⟩ := fun k o h => ⟨(q1 k o (p1 k o h).1).1, (q1 k o (p1 k o h).1).2.trans (p1 k o h).2⟩
  have k2 : ∀ id gh, ι id = some gh → ι' id = some gh := fun id gh h => q2 id gh (p2 id gh h)
  exact ⟨⟨g.base.below, g.base.rolt, g.base.ronew, g.base.ilt, hb.defers, fun q' hq' => by
    obtain ⟨r1, r2⟩ := hb.keep q' hq'
    exact ⟨fun k o h => ⟨(k1 k o (r1 k o h).1).1, (k1 k o (r1 k o h).1).2.trans (r1 k o h).2⟩, fun id gh h => k2 id gh (r2 id gh h)⟩, g.base.held⟩, k1, k2⟩
theorem bindP_sound {w : World} {ι : Nat → Option Gh} {ro : Nat → Nat → Prop} : ∀ (ps : List Nat) (vals : List Value) (args : List (AV E)) (tm tm' : List (Nat × AV E)) (tmps : Array Value), bindP n ps args tm = some tm' → vals.length = args.length →
    (∀ (i : Nat) v x, vals[i]? = some v → args[i]? = some x → Rep E w ro ι v x) → tmps.size = n → (∀ t x, look tm t = some x → ∃ v, tmps[t]? = some v ∧ Rep E w ro ι v x) → NoCond tm →
    ps.length = args.length ∧ ((ps.zip vals).foldl (fun tmps p => tmps.setIfInBounds p.1 p.2) tmps).size = n ∧ (∀ t x, look tm' t = some x → ∃ v, ((ps.zip vals).foldl (fun tmps p => tmps.setIfInBounds p.1 p.2) tmps)[t]? = some v ∧ Rep E w ro ι v x) ∧ NoCond tm'
  | [], vals, [], tm, tm', tmps, h, hl, _, hs, ht, hnc => by
    cases h
    exact ⟨rfl, by simpa using hs, by simpa using ht, hnc⟩
  | p :: ps, v :: vals, x :: args, tm, tm', tmps, h, hl, hr, hs, ht, hnc => by
    unfold bindP at h
    split at h
    · rename_i hc
      simp only [Bool.and_eq_true, Bool.not_eq_true'] at hc
      have hp : p < n := Nat.le_of_ble_eq_true hc.1
      obtain ⟨h1, h2, h3, h4⟩ := bindP_sound ps vals args _ tm' (tmps.setIfInBounds p v) h (by simpa using hl) (fun i v' x' h1 h2 => hr (i + 1) v' x' (by simpa using h1) (by simpa using h2)) (by simpa using hs) (fun t y hl => by
        simp only [look_nil, look_cons] at hl
        split at hl
        · rename_i hb
          have := Nat.eq_of_beq_eq_true hb
          subst this
          cases hl
          exact ⟨v, by simp [hs, hp], hr 0 v _ rfl rfl⟩
        · rename_i hb
          have hne : p ≠ t := fun e => hb (by subst e; exact Nat.beq_refl p)
          obtain ⟨u, q1, q2⟩ := ht t y hl
          exact ⟨u, by rw [Array.getElem?_setIfInBounds_ne hne]; exact q1, q2⟩) (fun q hq => by
        cases hq with
        | head => exact hc.2
        | tail _ hq => exact hnc q hq)
      exact ⟨by simp [h1], h2, h3, h4⟩
    · cases h
  | [], _, _ :: _, _, _, _, h, _, _, _, _, _ => by cases h
  | _ :: _, _, [], _, _, _, h, _, _, _, _, _ => by cases h
  | _ :: _, [], _ :: _, _, _, _, _, hl, _, _, _, _ => by simp at hl
theorem Gam.setLp {w1 : Start} {S : ASt E} {a : Act} {w : World} {ι : Nat → Option Gh} {ro : Nat → Nat → Prop} {id l : Nat} {gh : Gh} {st st' : LoopState} {pend pend' : Option Code} {m : Nat} {tm : List (Nat × AV E)} {ps : Array Tmp} {as_ bd : Code} (hnc : NoCond S.tmps) (hg : Gam E w1 ro0 S a w ι ro) (hi : ι id = some gh) (hb : gh.blk = some l)
    (hl : look S.objs id = some (.lp st pend m tm ps as_ bd)) : ∃ rec : Loop, w.heap[l]? = some (.loop rec) ∧ rec.state = st ∧ Gam E w1 ro0 ⟨S.n, S.tmps, (id, .lp st' pend' m tm ps as_ bd) :: S.objs, S.next + 1⟩ a (w.putObj l (.loop { rec with state := st', pending := pend' })) ι ro := by
  obtain ⟨gh', g, rec, h1, h2, h3, ⟨s1, s2, s3, s4, s5, s6⟩, h5⟩ := hg.objs id _ hl
  rw [hi] at h1
  cases h1
  rw [hb] at h2
  cases h2
  have hlt := (Array.getElem?_eq_some_iff.1 h3).1
  refine ⟨rec, h3, s1, Gam.putOwn (n := S.n) (tm := S.tmps) (objs := S.objs) (nx := S.next) hg hnc hl rfl hi hb h3 rfl rfl ⟨gh, l, _, hi, hb, World.putObj_heap_same hlt, ⟨rfl, rfl, s3, s4, s5, s6⟩, fun t x hx => ?_⟩⟩
  obtain ⟨v, q1, q2⟩ := h5 t x hx
  exact ⟨v, q1, q2.mono (fun _ _ h => h) (fun k o _ => cell_putObj w h3 rfl rfl k o) (fun _ _ h => h)⟩
theorem rndRun_ok (hO : OracleOk E O) (hY : RndOk E Y) (hmix : P.follows .mixedOrders = true) (h : Hint E) (fr : Bool) : RndOk E ⟨fr, fun id args objs next k => rndRun O Y h id args objs next k⟩ := by
  intro R id args objs next k rr hrun w0 ro0 a w ι ro vals hb ho hi hf hids hlen hreps gh l hgi hgb
  have hrun : rndRun O Y h id args objs next k = some rr := hrun
  unfold rndRun at hrun
  split at hrun
  · rename_i pend n tm ps assign body hl
    split at hrun
    · rename_i tm' hall hbd
      obtain ⟨gh', g, rec, h1, h2, h3, ⟨s1, s2, s3, s4, s5, s6⟩, h5⟩ := ho id _ hl
      rw [hgi] at h1
      cases h1
      rw [hgb] at h2
      cases h2
      have hnc : NoCond tm := fun p hp => by
        have := List.all_eq_true.1 hall p hp
        simpa using this
      obtain ⟨b1, b2, b3, b4⟩ := bindP_sound ps.toList vals args tm tm' rec.tmps hbd hlen hreps s6 h5 hnc
      have hsz : vals.toArray.size = rec.params.size := by rw [s3]; simpa [hlen] using b1.symm
      refine ⟨rec.fn, _, rec.assign, rec.body, run_yield h3 hsz, fun r nn => ?_⟩
      have ef : (rec.params.zip vals.toArray).foldl (fun tmps (t, a) => tmps.setIfInBounds t a) rec.tmps = (ps.toList.zip vals).foldl (fun tmps p => tmps.setIfInBounds p.1 p.2) rec.tmps := by
        rw [s3, ← Array.foldl_toList, Array.toList_zip]
      rw [ef, s4, s5]
      generalize (ps.toList.zip vals).foldl (fun tmps p => tmps.setIfInBounds p.1 p.2) rec.tmps = tmps at b2 b3
      refine roundIn_of_wpIn (F := Wd r) trivial ?_
      show assign.wpIn (Wd (some l)) nn P _ _ w
      have ht : TmOk E w ro ι { tmps := tmps, defers := [] } tm' := fun t x hx => by
        obtain ⟨v, q1, q2⟩ := b3 t x hx
        refine ⟨v, q1, ?_⟩
        have hc0 : isCond x = false := b4 _ (look_mem _ _ _ hx)
        cases x <;> first | exact q2 | cases hc0
      have gs : Gam E ⟨w0.w, w0.x, some ⟨w, ro, ι⟩, [], w0.h⟩ ro0 ⟨n, tm', objs, next⟩ { tmps := tmps, defers := [] } w ι ro :=
        ⟨⟨hb.below, hb.rolt, hb.ronew, hb.ilt, rfl, (fun q hq => by cases hq; exact ⟨fun k o h => ⟨h, rfl⟩, fun _ _ h => h⟩), hb.held⟩, b2, ht, ho, hi, hf, hids⟩
      have gm : GamM E ⟨w0.w, w0.x, some ⟨w, ro, ι⟩, w0.dl, w0.h⟩ ro0 (some id) (some l) [] ⟨n, tm', objs, next⟩ { tmps := tmps, defers := [] } w ι ro :=
        ⟨[], ⟨w, ro, ι⟩, gs, (fun q0 hq => by cases hq; exact ⟨fun k o h => ⟨h, rfl⟩, fun _ _ h => h⟩), trivial, gh, hgi, hgb⟩
      refine evRC_sound (n := n) hO hY hmix assign [] _ _ _ _ w ι ro b4 gm rfl hrun fun ms e S1 a1 w1 ι1 ro1 c1 c2 c3 c4 => ?_
      unfold midRnd at c4
      split at c4
      · split at c4
        · rename_i pend1 n1 tm1 ps1 as1 bd1 hl1
          obtain ⟨dl1, q1, g1, k1, k2, gh1, k3, k4⟩ := c2
          have hext1 := (g1.base.keep q1 rfl).2
          obtain ⟨rec1, r1, r2, r3⟩ := g1.setLp (st' := .busy) (pend' := pend1) c1 (hext1 _ _ k3) k4 hl1
          have erec : ({ rec1 with state := .busy, pending := pend1 } : Loop) = { rec1 with state := .busy } := by
            obtain ⟨gq, gg, rq, t1, t2, t3, ⟨t4, t5, _⟩, _⟩ := g1.objs id _ hl1
            rw [hext1 _ _ k3] at t1
            cases t1
            rw [k4] at t2
            cases t2
            rw [r1] at t3
            cases t3
            rw [← t5]
          rw [erec] at r3
          refine ⟨_, run_beginRound r1 r2, ?_⟩
          show body.wpIn (Wd (some l)) nn P _ _ _
          refine evRC_sound (n := S1.n) (rd := some id) hO hY hmix body [] ⟨S1.n, S1.tmps, (id, .lp .busy pend1 n1 tm1 ps1 as1 bd1) :: S1.objs, S1.next + 1⟩ (endRnd id k) _ _ _ ι1 ro1 c1 ⟨dl1, q1, r3, k1, k2, (⟨gh1, k3, k4⟩ : RdOk (some id) (some l) q1.ι)⟩ rfl c4 fun ms2 e2 S2 a2 w2 ι2 ro2 d1 d2 d3 d4 => ?_
          unfold endRnd at d4
          split at d4
          · cases d4
          · split at d4
            · rename_i st3 pend3 n3 tm3 ps3 as3 bd3 hl3
              have fin : ∀ (jump : Option Code) (b : Bool), b = jump.isNone → k (.d (.bool b)) ((id, .lp (if jump.isNone then .ready else .done) jump n3 tm3 ps3 as3 bd3) :: S2.objs) (S2.next + 1) = some rr →
                  ∃ v w', (Instr.endRound l jump).run P w2 = .ok v w' ∧ ∃ (v' : Value) (x : AV E) (objs' : List (Nat × AObj E)) (next' : Nat) (ι' : Nat → Option Gh) (ro' : Nat → Nat → Prop), Ending.returned v = .returned v' ∧ k x objs' next' = some rr ∧ Rep E w' ro' ι' v' x ∧ Base w0 ro0 a w' ι' ro' ∧
                    (∀ (id : Nat) o, look objs' id = some o → ObjOk E w' ro' ι' id o) ∧ Inj E objs' ι' ∧ (∀ id, next' ≤ id → ι' id = none) ∧ (∀ id o, look objs' id = some o → id < next') ∧
                    (∀ k o, ro k o → ro' k o ∧ w'.cell? ⟨k, o, none⟩ = w.cell? ⟨k, o, none⟩) ∧ ∀ id gh, ι id = some gh → ι' id = some gh := by
                intro jump b hbj hk'
                obtain ⟨dl2, q2, g2, k5, k6, gh2, k7, k8⟩ := d2
                obtain ⟨rec2, u1, u2, u3⟩ := g2.setLp (st' := if jump.isNone then .ready else .done) (pend' := jump) d1 ((g2.base.keep q2 rfl).2 _ _ k7) k8 hl3
                obtain ⟨z1, z2, z3⟩ := GamM.out (a := a) (dl0 := w0.dl) (rd := some id) (r := some l) (ms := []) hb ⟨dl2, q2, u3, k5, k6, (⟨gh2, k7, k8⟩ : RdOk (some id) (some l) q2.ι)⟩
                refine ⟨_, _, run_endRound jump u1, _, .d (.bool b), _, _, ι2, ro2, rfl, hk', ?_, z1, u3.objs, u3.inj, u3.fresh, u3.ids, z2, z3⟩
                subst hbj
                exact .d _ _ (.bool _)
              cases e2 with
              | normal => exact fin none true rfl d4
              | ret => exact fin (some .ret) false rfl d4
              | exit i => exact fin (some (.exit i)) false rfl d4
              | goto q => exact fin (some (.goto q)) false rfl d4
            · cases d4
        · cases c4
      · cases c4
    · cases hrun
  · cases hrun
theorem Gam.noDefers {w1 : Start} {S : ASt E} {a : Act} {w : World} {ι : Nat → Option Gh} {ro : Nat → Nat → Prop} (hg : Gam E w1 ro0 S a w ι ro) : Gam E ⟨w1.w, w1.x, w1.k, [], w1.h⟩ ro0 S { tmps := a.tmps, defers := [] } w ι ro :=
  ⟨⟨hg.base.below, hg.base.rolt, hg.base.ronew, hg.base.ilt, rfl, hg.base.keep, hg.base.held⟩, hg.size, hg.tmps, hg.objs, hg.inj, hg.fresh, hg.ids⟩
theorem Gam.unkeep {w1 : Start} {S : ASt E} {a : Act} {w : World} {ι : Nat → Option Gh} {ro : Nat → Nat → Prop} (hg : Gam E w1 ro0 S a w ι ro) : Gam E ⟨w1.w, w1.x, none, w1.dl, w1.h⟩ ro0 S a w ι ro :=
  ⟨⟨hg.base.below, hg.base.rolt, hg.base.ronew, hg.base.ilt, hg.base.defers, (fun q hq => by cases hq), hg.base.held⟩, hg.size, hg.tmps, hg.objs, hg.inj, hg.fresh, hg.ids⟩
theorem kill_sound {w1 : Start} {q : Keep} {a : Act} {ι : Nat → Option Gh} {ro : Nat → Nat → Prop} (hq : w1.k = some q) {fn : Func} {RR : Ending → World → Prop} : ∀ (ms : List Nat) (dl : List Deferred) (S S' : ASt E) (w : World), NoCond S.tmps → Gam E w1 ro0 S a w ι ro → MkOk q.ι ms dl → killM ms S = some S' →
    (∀ w', NoCond S'.tmps → Gam E w1 ro0 S' a w' ι ro → ∃ v, (results fn a.tmps).run P w' = .ok v w' ∧ RR (.returned v) w') → LeavesInM (Wd none) nn P fn a.tmps RR dl .returning w
  | [], [], S, S', w, hnc, hg, _, hk, h => by
    cases hk
    exact h w hnc hg
  | i :: ms, d :: dl, S, S', w, hnc, hg, ⟨⟨gh, g, h1, h2, h3⟩, hm⟩, hk, h => by
    unfold killM at hk
    split at hk
    · rename_i hl
      obtain ⟨gh', g', p1, p2, p3⟩ := hg.objs i _ hl
      rw [(hg.base.keep q hq).2 _ _ h1] at p1
      cases p1
      rw [h2] at p2
      cases p2
      have g2 := Gam.putOwn (n := S.n) (tm := S.tmps) (objs := S.objs) (nx := S.next) (x := .dead) (o' := .deferred none) hg hnc hl rfl ((hg.base.keep q hq).2 _ _ h1) h2 p3 rfl rfl trivial
      exact ⟨fun e => (by cases e), .inl ⟨g, _, by rw [h3], run_takeDeferred p3, kill_sound hq ms dl ⟨S.n, S.tmps, (i, .dead) :: S.objs, S.next + 1⟩ S' _ hnc g2 hm hk h⟩⟩
    · cases hk
  | [], _ :: _, _, _, _, _, _, h, _, _ => h.elim
  | _ :: _, [], _, _, _, _, _, h, _, _ => h.elim
theorem inlRun_ok (hO : OracleOk E O) (hY : RndOk E Y) (hmix : P.follows .mixedOrders = true) {R : Type} {h : Hint E} {f : FuncId} {fn : Func} (hfn : P.funcs[f]? = some fn) {args : List (AV E)} {objs : List (Nat × AObj E)} {next : Nat} {k : AV E → List (Nat × AObj E) → Nat → Option R} {rr : R}
    (hrun : inlRun O Y h fn args objs next k = some rr) (w0 : Start) (ro0 : Nat → Nat → Prop) (a : Act) (w : World) (ι : Nat → Option Gh) (ro : Nat → Nat → Prop) (vals : List Value) (hb : Base w0 ro0 a w ι ro) (ho : ∀ (id : Nat) o, look objs id = some o → ObjOk E w ro ι id o) (hi : Inj E objs ι) (hf : ∀ id, next ≤ id → ι id = none)
    (hids : ∀ id o, look objs id = some o → id < next) (hlen : vals.length = args.length) (hargs : ∀ (i : Nat) v x, vals[i]? = some v → args[i]? = some x → Rep E w ro ι v x) :
    Calls P f vals.toArray w fun e w' => ∃ (v : Value) (x : AV E) (objs' : List (Nat × AObj E)) (next' : Nat) (ι' : Nat → Option Gh) (ro' : Nat → Nat → Prop), e = .returned v ∧ k x objs' next' = some rr ∧ Rep E w' ro' ι' v x ∧ Base w0 ro0 a w' ι' ro' ∧
      (∀ (id : Nat) o, look objs' id = some o → ObjOk E w' ro' ι' id o) ∧ Inj E objs' ι' ∧ (∀ id, next' ≤ id → ι' id = none) ∧ (∀ id o, look objs' id = some o → id < next') ∧
      (∀ k o, ro k o → ro' k o ∧ w'.cell? ⟨k, o, none⟩ = w.cell? ⟨k, o, none⟩) ∧ ∀ id gh, ι id = some gh → ι' id = some gh := by
  unfold inlRun at hrun
  split at hrun
  · rename_i c hc
    let w1 : Start := ⟨w0.w, w0.x, some ⟨w, ro, ι⟩, [], w0.h⟩
    have hg : Gam E w1 ro0 (startI fn args objs next) { tmps := vals.toArray ++ Array.replicate (fn.ntmps - vals.toArray.size) undef, defers := [] } w ι ro := {
      base := ⟨hb.below, hb.rolt, hb.ronew, hb.ilt, rfl, (fun q hq => by cases hq; exact ⟨fun k o h => ⟨h, rfl⟩, fun _ _ h => h⟩), hb.held⟩
      size := by simp [startI, hlen]
      tmps := fun t x hl => by
        obtain ⟨_, y, hy, rfl⟩ := argsI_look hl
        rw [Nat.sub_zero] at hy
        have hlt : t < vals.length := by rw [hlen]; exact (List.getElem?_eq_some_iff.1 hy).1
        have hv := List.getElem?_eq_getElem hlt
        refine ⟨vals[t], by simp [Array.getElem?_append, hlt], ?_⟩
        have hr : Rep E w ro ι vals[t] y := hargs t _ y hv hy
        cases hcy : isCond y with
        | true => exact Rep.any _
        | false =>
          rw [cond_false]
          cases y <;> first | exact hr | cases hcy
      objs := ho
      inj := hi
      fresh := hf
      ids := hids }
    have gm : GamM E ⟨w0.w, w0.x, some ⟨w, ro, ι⟩, w0.dl, w0.h⟩ ro0 none none [] (startI fn args objs next) { tmps := vals.toArray ++ Array.replicate (fn.ntmps - vals.toArray.size) undef, defers := [] } w ι ro :=
      ⟨[], ⟨w, ro, ι⟩, hg, (fun q0 hq => by cases hq; exact ⟨fun k o h => ⟨h, rfl⟩, fun _ _ h => h⟩), trivial, trivial⟩
    have fin : ∀ (w2 : Start) (e : Ending) (w' : World), w2.w = w0.w → w2.x = w0.x → w2.h = w0.h → (∃ q, w2.k = some q ∧ KLe (some ⟨w, ro, ι⟩) q) → EndIP E k rr w2 ro0 e w' → ∃ (v : Value) (x : AV E) (objs' : List (Nat × AObj E)) (next' : Nat) (ι' : Nat → Option Gh) (ro' : Nat → Nat → Prop), e = .returned v ∧ k x objs' next' = some rr ∧ Rep E w' ro' ι' v x ∧ Base w0 ro0 a w' ι' ro' ∧
      (∀ (id : Nat) o, look objs' id = some o → ObjOk E w' ro' ι' id o) ∧ Inj E objs' ι' ∧ (∀ id, next' ≤ id → ι' id = none) ∧ (∀ id o, look objs' id = some o → id < next') ∧
      (∀ k o, ro k o → ro' k o ∧ w'.cell? ⟨k, o, none⟩ = w.cell? ⟨k, o, none⟩) ∧ ∀ id gh, ι id = some gh → ι' id = some gh := by
      intro w2 e w' e1 e2 e3 ⟨q, hq, hk⟩ he
      obtain ⟨w2w, w2x, w2k, w2d, w2h⟩ := w2
      have e1 : w2w = w0.w := e1
      have e2 : w2x = w0.x := e2
      have e3 : w2h = w0.h := e3
      have hq : w2k = some q := hq
      subst e1; subst e2; subst e3; subst hq
      obtain ⟨v, x, objs', next', ι', ro', a', h1, h2, h3, h4, h5, h6, h7, h8⟩ := he
      obtain ⟨p1, p2⟩ := hk _ rfl
      obtain ⟨q1, q2⟩ := h4.keep q rfl
      have k1 : ∀ k o, ro k o → ro' k o ∧ w'.cell? ⟨k, o, none⟩ = w.cell? ⟨k, o, none⟩ := fun k o h => ⟨(q1 k o (p1 k o h).1).1, (q1 k o (p1 k o h).1).2.trans (p1 k o h).2⟩
      have k2 : ∀ id gh, ι id = some gh → ι' id = some gh := fun id gh h => q2 id gh (p2 id gh h)
      exact ⟨v, x, objs', next', ι', ro', h1, h2, h3, ⟨h4.below, h4.rolt, h4.ronew, h4.ilt, hb.defers, fun q' hq' => by
        obtain ⟨r1, r2⟩ := hb.keep q' hq'
        exact ⟨fun k o h => ⟨(k1 k o (r1 k o h).1).1, (k1 k o (r1 k o h).1).2.trans (r1 k o h).2⟩, fun id gh h => k2 id gh (r2 id gh h)⟩, h4.held⟩, h5, h6, h7, h8, k1, k2⟩
    split at hrun
    · refine (calls_of_wp (R := EndIP E k rr w1 ro0) hfn hc ?_).mono fun e w' he => fin w1 e w' rfl rfl rfl ⟨_, rfl, fun q0 hq => by cases hq; exact ⟨fun k o h => ⟨h, rfl⟩, fun _ _ h => h⟩⟩ he
      exact evU_sound (n := (startI fn args objs next).n) hO hmix c (startI fn args objs next) (endI fn k) _ _ w _ ro (argsI_noCond args 0) hg rfl hrun
        fun e S' a' w' ι' ro' _ h2 _ h4 => endI_sound h2 h4 rfl
    · refine callsIn_wd (r := none) (n := 0).1 (callsIn_of_wp_marks hfn hc trivial ?_)
      show c.wpIn (Wd none) 0 P _ _ w
      refine evRC_sound (n := (startI fn args objs next).n) hO hY hmix c [] (startI fn args objs next) (endR fn k) _ _ w ι ro (argsI_noCond args 0) gm rfl hrun fun ms e S' a' w' ι' ro' h1 h2 h3 h4 => ?_
      unfold endR at h4
      split at h4
      · rename_i S2 he hkl
        obtain ⟨dl, q, g, k1, k2, _⟩ := h2
        have hd : a'.defers = dl := g.base.defers
        have main : LeavesInM (Wd none) 0 P fn a'.tmps (fun e w' => ∃ (v : Value) (x : AV E) (objs' : List (Nat × AObj E)) (next' : Nat) (ι' : Nat → Option Gh) (ro' : Nat → Nat → Prop), e = .returned v ∧ k x objs' next' = some rr ∧ Rep E w' ro' ι' v x ∧ Base w0 ro0 a w' ι' ro' ∧
            (∀ (id : Nat) o, look objs' id = some o → ObjOk E w' ro' ι' id o) ∧ Inj E objs' ι' ∧ (∀ id, next' ≤ id → ι' id = none) ∧ (∀ id o, look objs' id = some o → id < next') ∧
            (∀ k o, ro k o → ro' k o ∧ w'.cell? ⟨k, o, none⟩ = w.cell? ⟨k, o, none⟩) ∧ ∀ id gh, ι id = some gh → ι' id = some gh) a'.defers .returning w' := by
          rw [hd]
          refine kill_sound (w1 := ⟨w0.w, w0.x, some q, dl, w0.h⟩) (q := q) rfl ms dl S' S2 w' h1 g k2 hkl fun w2 c1 c2 => ?_
          have := endI_sound (e := .ret) c2.noDefers h4 rfl
          obtain ⟨_, v, v1, v2⟩ := this
          exact ⟨v, v1, fin ⟨w0.w, w0.x, some q, [], w0.h⟩ _ w2 rfl rfl rfl ⟨q, rfl, k1⟩ v2⟩
        cases e with
        | normal => exact main
        | ret => exact main
        | exit id => cases he
        | goto l => cases he
      · cases h4
  · cases hrun
theorem runT_ok (hO : OracleOk E O) (hY : RndOk E Y) (hmix : P.follows .mixedOrders = true) {h : Hint E} {f : FuncId} {fn : Func} (hf : P.funcs[f]? = some fn) {args res : List (TV E)} (hr : runT O Y h fn args = some res) : CallsOk E f args res := by
  unfold runT at hr
  split at hr
  · rename_i c hc
    intro w ro vals hargs hrolt
    obtain ⟨hlen, hat⟩ := ArgsRep.at_ vals args hargs
    have hg : Gam E ⟨w, none, none, [], fun _ => none⟩ ro (startS fn args) { tmps := vals.toArray ++ Array.replicate (fn.ntmps - vals.toArray.size) undef, defers := [] } w (fun _ => none) ro := {
      base := ⟨⟨rfl, rfl, rfl, Nat.le_refl _, fun _ _ _ => rfl⟩, hrolt, fun k o h => .inl h, (fun id gh k h => by cases h), rfl, (fun q h => by cases h), (fun k o h => by cases h)⟩
      size := by simp [startS, hlen]
      tmps := fun t x hl => by
        obtain ⟨_, y, hy, rfl⟩ := argsT_look hl
        rw [Nat.sub_zero] at hy
        have hlt : t < vals.length := by rw [hlen]; exact (List.getElem?_eq_some_iff.1 hy).1
        have hv := List.getElem?_eq_getElem hlt
        refine ⟨vals[t], by simp [Array.getElem?_append, hlt], ?_⟩
        have hr : Rep E w ro (fun _ => none) vals[t] (expandA y.1 y.2) := expandA_rep (hat t _ y hv hy)
        have hc := expandA_noCond (E := E) (t := y.1) (x := y.2)
        generalize expandA y.1 y.2 = z at hr hc
        cases z <;> first | exact hr | cases hc
      objs := fun id o hl => by cases hl
      inj := fun id id' o o' gh gh' k hl => by cases hl
      fresh := fun _ _ => rfl
      ids := fun id o hl => by cases hl }
    split at hr
    · refine calls_of_wp hf hc ?_
      exact evU_sound (n := (startS fn args).n) hO hmix c (startS fn args) (endK fn) _ _ w _ ro (argsT_noCond args 0) hg rfl hr
        fun e S' a' w' ι' ro' h1 h2 _ h4 => endK_sound h1 h2 h4
    · refine callsIn_wd (r := none) (n := 0).1 (callsIn_of_wp_marks hf hc trivial ?_)
      show c.wpIn (Wd none) 0 P _ _ w
      have gm : GamM E ⟨w, none, none, [], fun _ => none⟩ ro none none [] (startS fn args) { tmps := vals.toArray ++ Array.replicate (fn.ntmps - vals.toArray.size) undef, defers := [] } w (fun _ => none) ro :=
        ⟨[], ⟨w, ro, fun _ => none⟩, ⟨⟨hg.base.below, hg.base.rolt, hg.base.ronew, hg.base.ilt, rfl, (fun q hq => by cases hq; exact ⟨fun k o h => ⟨h, rfl⟩, fun _ _ h => h⟩), hg.base.held⟩, hg.size, hg.tmps, hg.objs, hg.inj, hg.fresh, hg.ids⟩, (fun q0 hq => by cases hq), trivial, trivial⟩
      refine evRC_sound (n := (startS fn args).n) hO hY hmix c [] (startS fn args) (endT fn) _ _ w _ ro (argsT_noCond args 0) gm rfl hr fun ms e S' a' w' ι' ro' h1 h2 h3 h4 => ?_
      unfold endT at h4
      split at h4
      · rename_i S2 he hkl
        obtain ⟨dl, q, g, k1, k2, _⟩ := h2
        have hd : a'.defers = dl := g.base.defers
        have main : LeavesInM (Wd none) 0 P fn a'.tmps (fun e w' => ∃ v, e = .returned v ∧ Below w.heap.size w w' ∧ RetRep E w' (fun k o => ro k o ∨ (w.heap.size ≤ k ∧ k < w'.heap.size)) v res) a'.defers .returning w' := by
          rw [hd]
          refine kill_sound (w1 := ⟨w, none, some q, dl, fun _ => none⟩) (q := q) rfl ms dl S' S2 w' h1 g k2 hkl fun w2 c1 c2 => ?_
          have := endK_sound (e := .ret) (fn := fn) (res := res) c1 c2.noDefers.unkeep h4
          obtain ⟨_, v, v1, v2⟩ := this
          exact ⟨v, v1, v2⟩
        cases e with
        | normal => exact main
        | ret => exact main
        | exit id => cases he
        | goto l => cases he
      · cases h4
  · cases hr
theorem closeS_sound {fn : Func} {w : World} {ro : Nat → Nat → Prop} {S : ASt E} {a' : Act} {w' : World} {ι' : Nat → Option Gh} {ro' : Nat → Nat → Prop} {x : AV E} (hnc : NoCond S.tmps) (hg : Gam E ⟨w, none, none, [], fun _ => none⟩ ro S a' w' ι' ro') (h : closeS fn S = some x) :
    ∃ v, (results fn a'.tmps).run P w' = .ok v w' ∧ ∃ v', Ending.returned v = .returned v' ∧ Below w.heap.size w w' ∧ Rep E w' (fun k o => ro k o ∨ (w.heap.size ≤ k ∧ k < w'.heap.size)) (fun _ => none) v' x := by
  obtain ⟨_, hg'⟩ := freezeS_sound hnc hg
  generalize frzRo S.objs ι' ro' = ro' at hg'
  have hm : ∀ {v : Value} {y : AV E}, Rep E w' ro' (fun _ => none) v y → Rep E w' (fun k o => ro k o ∨ (w.heap.size ≤ k ∧ k < w'.heap.size)) (fun _ => none) v y := fun h => h.mono (fun k o hk => by
    rcases hg'.base.ronew k o hk with h | h
    · exact .inl h
    · rcases h with h | h
      · exact .inr ⟨h, hg'.base.rolt k o hk⟩
      · cases h) (fun _ _ _ => rfl) (fun _ _ h => h)
  have run : ∀ (vs : List Value), (fn.results.toList.mapM (resV a'.tmps)).run P w' = Result.ok vs w' → (results fn a'.tmps).run P w' = .ok (if h : vs.length = 1 then vs[0] else .tuple vs.toArray) w' := fun vs hvs => by
    show (do let vs ← fn.results.mapM (resV a'.tmps); pure (if h : vs.size = 1 then vs[0] else .tuple vs) : Sem Value).run P w' = _
    rw [Array.mapM_eq_mapM_toList]
    simp only [Sem.run_bind, Sem.run_map, hvs]
    simp [Result.andThen]
  unfold closeS at h
  split at h
  · rename_i v hv
    obtain ⟨vs, hvs, hl, hrep⟩ := valsA_rep hg' hv
    have h1 : vs.length = 1 := hl
    refine ⟨_, run vs hvs, _, rfl, below_of_grown hg'.base.below, ?_⟩
    rw [dif_pos h1]
    exact hm (clsA_rep (hrep 0 _ v (List.getElem?_eq_getElem (by omega)) rfl).1 h)
  · rename_i ys hne hv
    split at h
    · rename_i l hl
      cases h
      obtain ⟨vs, hvs, hlen, hrep⟩ := valsA_rep hg' hv
      obtain ⟨q1, q2⟩ := clsAs_at hl
      have h1 : ¬ vs.length = 1 := fun e => by
        match ys, hlen, hne with
        | [y], _, hne => exact hne y rfl
        | [], hl, _ => rw [e] at hl; cases hl
        | _ :: _ :: _, hl, _ => rw [e] at hl; simp at hl
      refine ⟨_, run vs hvs, _, rfl, below_of_grown hg'.base.below, ?_⟩
      rw [dif_neg h1]
      refine .tup _ _ (by simp [hlen, q1]) fun j v y hv hy => ?_
      have hj : j < ys.length := by rw [q1]; exact (List.getElem?_eq_some_iff.1 hy).1
      exact hm (clsA_rep (hrep j v _ (by simpa using hv) (List.getElem?_eq_getElem hj)).1 (q2 j _ y (List.getElem?_eq_getElem hj) hy))
    · cases h
  · cases h
theorem runC_ok (hO : OracleOk E O) (hY : RndOk E Y) (hmix : P.follows .mixedOrders = true) {h : Hint E} {f : FuncId} {fn : Func} (hf : P.funcs[f]? = some fn) {args : List (AV E)} {x : AV E} (hr : runC O Y h fn args = some x) : CallsCl E f args x := by
  unfold runC at hr
  split at hr
  · rename_i c hc
    intro w ro vals hlen hargs hrolt
    have hg : Gam E ⟨w, none, none, [], fun _ => none⟩ ro (startI fn args [] 0) { tmps := vals.toArray ++ Array.replicate (fn.ntmps - vals.toArray.size) undef, defers := [] } w (fun _ => none) ro := {
      base := ⟨⟨rfl, rfl, rfl, Nat.le_refl _, fun _ _ _ => rfl⟩, hrolt, fun k o h => .inl h, (fun id gh k h => by cases h), rfl, (fun q h => by cases h), (fun k o h => by cases h)⟩
      size := by simp [startI, hlen]
      tmps := fun t x hl => by
        obtain ⟨_, y, hy, rfl⟩ := argsI_look hl
        rw [Nat.sub_zero] at hy
        have hlt : t < vals.length := by rw [hlen]; exact (List.getElem?_eq_some_iff.1 hy).1
        have hv := List.getElem?_eq_getElem hlt
        refine ⟨vals[t], by simp [Array.getElem?_append, hlt], ?_⟩
        have hr : Rep E w ro (fun _ => none) vals[t] y := hargs t _ y hv hy
        cases hcy : isCond y with
        | true => exact Rep.any _
        | false =>
          rw [cond_false]
          cases y <;> first | exact hr | cases hcy
      objs := fun id o hl => by cases hl
      inj := fun id id' o o' gh gh' k hl => by cases hl
      fresh := fun _ _ => rfl
      ids := fun id o hl => by cases hl }
    split at hr
    · refine calls_of_wp hf hc ?_
      refine evU_sound (n := (startI fn args [] 0).n) hO hmix c (startI fn args [] 0) (endCU fn) _ _ w _ ro (argsI_noCond args 0) hg rfl hr
        fun e S' a' w' ι' ro' h1 h2 _ h4 => ?_
      unfold endCU at h4
      split at h4
      · rename_i he
        have main := closeS_sound h1 h2 h4
        cases e with
        | normal => exact ⟨h2.base.defers, main⟩
        | ret => exact ⟨h2.base.defers, main⟩
        | exit id => cases he
        | goto l => cases he
      · cases h4
    · refine callsIn_wd (r := none) (n := 0).1 (callsIn_of_wp_marks hf hc trivial ?_)
      show c.wpIn (Wd none) 0 P _ _ w
      have gm : GamM E ⟨w, none, none, [], fun _ => none⟩ ro none none [] (startI fn args [] 0) { tmps := vals.toArray ++ Array.replicate (fn.ntmps - vals.toArray.size) undef, defers := [] } w (fun _ => none) ro :=
        ⟨[], ⟨w, ro, fun _ => none⟩, ⟨⟨hg.base.below, hg.base.rolt, hg.base.ronew, hg.base.ilt, rfl, (fun q hq => by cases hq; exact ⟨fun k o h => ⟨h, rfl⟩, fun _ _ h => h⟩), hg.base.held⟩, hg.size, hg.tmps, hg.objs, hg.inj, hg.fresh, hg.ids⟩, (fun q0 hq => by cases hq), trivial, trivial⟩
      refine evRC_sound (n := (startI fn args [] 0).n) hO hY hmix c [] (startI fn args [] 0) (endC fn) _ _ w _ ro (argsI_noCond args 0) gm rfl hr fun ms e S' a' w' ι' ro' h1 h2 h3 h4 => ?_
      unfold endC at h4
      split at h4
      · rename_i S2 he hkl
        obtain ⟨dl, q, g, k1, k2, _⟩ := h2
        have hd : a'.defers = dl := g.base.defers
        have main : LeavesInM (Wd none) 0 P fn a'.tmps (fun e w' => ∃ v, e = .returned v ∧ Below w.heap.size w w' ∧ Rep E w' (fun k o => ro k o ∨ (w.heap.size ≤ k ∧ k < w'.heap.size)) (fun _ => none) v x) a'.defers .returning w' := by
          rw [hd]
          exact kill_sound (w1 := ⟨w, none, some q, dl, fun _ => none⟩) (q := q) rfl ms dl S' S2 w' h1 g k2 hkl fun w2 c1 c2 => by
            have := closeS_sound c1 c2.noDefers.unkeep h4
            exact this
        cases e with
        | normal => exact main
        | ret => exact main
        | exit id => cases he
        | goto l => cases he
      · cases h4
  · cases hr
theorem Rnd.nil_ok : RndOk E Rnd.nil := by
  intro R id args objs next k rr h
  cases h
theorem lev_ok {B : Oracle E} (hB : OracleOk E B) (hmix : P.follows .mixedOrders = true) {tr ti : List (FuncId × Func)} {hs : List (FuncId × Hint E)} {hr : Hint E} (h1 : TblOk P tr) (h2 : TblOk P ti) : ∀ d, OracleOk E (lev B tr ti hs hr d).1 ∧ RndOk E (lev B tr ti hs hr d).2
  | 0 => ⟨⟨hB.1, hB.2.1, hB.2.2.1, hB.2.2.2.1, (fun f args objs next k rr h => by cases h), hB.2.2.2.2.2⟩, Rnd.nil_ok⟩
  | d + 1 => by
    obtain ⟨hO, hY⟩ := lev_ok hB hmix h1 h2 (hs := hs) (hr := hr) d
    refine ⟨⟨fun f args res h => ?_, hB.2.1, hB.2.2.1, hB.2.2.2.1, fun f args objs next k rr h => ?_, hB.2.2.2.2.2.1, fun f args x h => ?_⟩, rndRun_ok hO hY hmix hr _⟩
    · simp only [lev] at h
      split at h
      · rename_i fn hl
        obtain ⟨hf, hname, hbody⟩ := h1 _ (look_mem _ _ _ hl)
        split at h
        · rename_i q hq
          cases h
          exact ⟨⟨fn, hf, hname, hbody⟩, runT_ok hO hY hmix hf hq⟩
        · cases h
      · exact hB.1 f args res h
    · simp only [lev] at h
      split at h
      · rename_i fn hl
        obtain ⟨hf, hname, hbody⟩ := h2 _ (look_mem _ _ _ hl)
        exact ⟨⟨fn, hf, hname, hbody⟩, fun w0 ro0 a w ι ro vals hb ho hi hfr hids hlen hargs => inlRun_ok hO hY hmix hf h w0 ro0 a w ι ro vals hb ho hi hfr hids hlen hargs⟩
      · cases h
    · simp only [lev] at h
      split at h
      · rename_i fn hl
        obtain ⟨hf, hname, hbody⟩ := h1 _ (look_mem _ _ _ hl)
        exact ⟨⟨fn, hf, hname, hbody⟩, runC_ok hO hY hmix hf h⟩
      · exact hB.2.2.2.2.2.2 f args x h
def withCl (B : Oracle E) (f0 : FuncId) (key : List (AV E) → Bool) (x : AV E) : Oracle E := { B with cl := fun f xs => match Nat.beq f0 f && key xs with
  | true => some x
  | false => B.cl f xs }
theorem withCl_ok {B : Oracle E} (hB : OracleOk E B) {f0 : FuncId} {key : List (AV E) → Bool} {x : AV E} (hf : ∃ fn, P.funcs[f0]? = some fn ∧ (fn.name == "runtime.NumGoroutine") = false ∧ fn.body.isNone = false) (h : ∀ xs, key xs = true → CallsCl E f0 xs x) : OracleOk E (withCl B f0 key x) := by
  refine ⟨hB.1, hB.2.1, hB.2.2.1, hB.2.2.2.1, hB.2.2.2.2.1, hB.2.2.2.2.2.1, fun f args y hy => ?_⟩
  simp only [withCl] at hy
  split at hy
  · rename_i hk
    rw [Bool.and_eq_true] at hk
    have e := Nat.eq_of_beq_eq_true hk.1
    subst e
    cases hy
    exact ⟨hf, h args hk.2⟩
  · exact hB.2.2.2.2.2.2 f args y hy
theorem fn0_calls {f : FuncId} {t : E.Ty} {ok : Bool} {F : E.Den t} (hf : ∃ fn, P.funcs[f]? = some fn ∧ (fn.name == "runtime.NumGoroutine") = false ∧ fn.body.isNone = false) (h : ok = true → CallsOk E f [] [⟨t, F⟩]) : FnOk E f (fn0 t ok F) := by
  refine ⟨hf, fun args res hr => ?_⟩
  unfold fn0 at hr
  split at hr
  · cases hr; exact h rfl
  · cases hr
theorem fn1_calls {f : FuncId} {a t : E.Ty} {ok : E.Den a → Bool} {F : E.Den a → E.Den t} (hf : ∃ fn, P.funcs[f]? = some fn ∧ (fn.name == "runtime.NumGoroutine") = false ∧ fn.body.isNone = false) (h : ∀ x, ok x = true → CallsOk E f [⟨a, x⟩] [⟨t, F x⟩]) : FnOk E f (fn1 a t ok F) := by
  refine ⟨hf, fun args res hr => ?_⟩
  unfold fn1 at hr
  split at hr
  · split at hr
    · rename_i x hx
      injection hr with hr
      injection hr with h1 h2
      subst h2
      rw [castV_eq hx]
      exact h _ h1
    · cases hr
  · cases hr
theorem fn2_calls {f : FuncId} {a b t : E.Ty} {ok : E.Den a → E.Den b → Bool} {F : E.Den a → E.Den b → E.Den t} (hf : ∃ fn, P.funcs[f]? = some fn ∧ (fn.name == "runtime.NumGoroutine") = false ∧ fn.body.isNone = false) (h : ∀ x y, ok x y = true → CallsOk E f [⟨a, x⟩, ⟨b, y⟩] [⟨t, F x y⟩]) : FnOk E f (fn2 a b t ok F) := by
  refine ⟨hf, fun args res hr => ?_⟩
  unfold fn2 at hr
  split at hr
  · split at hr
    · rename_i x hx
      split at hr
      · rename_i y hy
        injection hr with hr
        injection hr with h1 h2
        subst h2
        rw [castV_eq hx, castV_eq hy]
        exact h _ _ h1
      · cases hr
    · cases hr
  · cases hr
end
end
end Go.Proofs.YtoibjelpldfpfaaGreatDoor.Mir
