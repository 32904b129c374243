/- The Mirror, part M: a region that leaves its order open: every order comes to what the interpreter says. -/
import Derived.Test.YtfoflgciceckoaaGreatDoorMirL
namespace Go.Proofs.YtfoflgciceckoaaGreatDoor.Mir
open Go Go.RowKit

section
variable {P : Program} {E : Env P} {O : Oracle E} {ops : Array Oper} {n next : Nat} {glob : List (Nat × AV E)} {objs : List (Nat × AObj E)}

theorem eff_cls0 {e : Ent E} {r : List (Ent E)} (h : EntOk O ops n glob objs next e r) (hc : e.cls = 0) : e.eff = [] := by
  obtain ⟨hi, o, res, ho, hpr, _, _, hres, hdn, _, hdst, _, heff, hcls⟩ := h
  rw [← hcls, hc] at hres
  rw [heff]
  cases hu : res.upd with
  | some u => simp [resOk, hu] at hres
  | none =>
    cases hn : res.new with
    | some o => simp [resOk, hu, hn] at hres
    | none => simp [effOf, putO, hu, hn]

theorem eff_cls1 {e : Ent E} {r : List (Ent E)} (h : EntOk O ops n glob objs next e r) (hc : e.cls = 1) : e.eff = [] ∨ ∃ o, e.eff = [(next + e.i, o)] := by
  obtain ⟨hi, o, res, ho, hpr, _, _, hres, hdn, _, hdst, _, heff, hcls⟩ := h
  rw [← hcls, hc] at hres
  rw [heff]
  cases hu : res.upd with
  | some u => simp [resOk, hu] at hres
  | none =>
    cases hn : res.new with
    | none => left; simp [effOf, putO, hu, hn]
    | some o => right; exact ⟨o, by simp [effOf, putO, hu, hn]⟩

theorem opCls_le (O : Oracle E) (o : Op) : opCls O o = 0 ∨ opCls O o = 1 ∨ opCls O o = 2 := by
  cases o with
  | buildSlice T n ps => cases n <;> simp [opCls]
  | call c =>
    simp only [opCls]
    split
    · simp
    · simp
    · rename_i f _
      cases O.isMut f <;> cases O.isFresh f || (O.grow f).isSome || O.inl.has f <;> simp
    · simp
  | _ => simp [opCls]

theorem ent_cls {e : Ent E} {r : List (Ent E)} (h : EntOk O ops n glob objs next e r) : e.cls = 0 ∨ e.cls = 1 ∨ e.cls = 2 := by
  obtain ⟨hi, o, res, ho, hpr, _, _, hres, hdn, _, hdst, _, heff, hcls⟩ := h
  rw [hcls]
  exact opCls_le _ _

theorem clsOk_inv : ∀ {c pr : Nat} {r : List (Ent E)}, clsOk c pr r = true → ∀ e ∈ r, c = 2 → e.cls ≠ 0 → Nat.testBit pr e.i = true
  | _, _, [], _, e, he => by cases he
  | c, pr, p :: r, h, e, he => by
    unfold clsOk at h
    simp only [Bool.and_eq_true] at h
    cases he with
    | tail _ he => exact clsOk_inv h.2 e he
    | head =>
      have h1 := h.1
      generalize hq : p.cls = q at h1
      intro hc hne
      subst hc
      match q, h1, hne with
      | 0, _, hne => exact absurd rfl hne
      | q + 1, h1, _ => simpa using h1
theorem has2_inv : ∀ {r : List (Ent E)}, has2 r = false → ∀ e ∈ r, e.cls = 0 ∨ e.cls = 1
  | [], _, e, he => by cases he
  | p :: r, h, e, he => by
    unfold has2 at h
    simp only [Bool.or_eq_false_iff] at h
    cases he with
    | tail _ he => exact has2_inv h.2 e he
    | head =>
      have h1 := h.1
      generalize p.cls = q at h1
      match q, h1 with
      | 0, _ => exact .inl rfl
      | 1, _ => exact .inr rfl
theorem mem1_true {l : List Nat} {i : Nat} (h : i ∈ l) : mem1 l i = true := by
  induction l with
  | nil => cases h
  | cons a t ih =>
    unfold mem1
    cases h with
    | head => simp
    | tail _ h => rw [ih h, Bool.or_true]
theorem look_hideA {ids : List Nat} : ∀ {l : List (Nat × AObj E)} {id : Nat} {o : AObj E}, look (hideA ids l) id = some o → look l id = some o ∧ mem1 ids id = false
  | [], _, _, h => by cases h
  | (i, x) :: r, id, o, h => by
    unfold hideA at h
    cases hm : mem1 ids i with
    | true =>
      rw [hm] at h
      obtain ⟨h1, h2⟩ := look_hideA h
      refine ⟨?_, h2⟩
      unfold look
      have hne : Nat.beq i id = false := by
        cases hb : Nat.beq i id with
        | false => rfl
        | true => have := Nat.eq_of_beq_eq_true hb; subst this; rw [hm] at h2; cases h2
      rw [hne]
      exact h1
    | false =>
      rw [hm] at h
      unfold look at h ⊢
      split at h
      · rename_i hb
        have := Nat.eq_of_beq_eq_true hb
        subst this
        exact ⟨by rw [if_pos hb]; exact h, hm⟩
      · rename_i hb
        rw [if_neg hb]
        exact look_hideA h
theorem look_none_of : ∀ {l : List (Nat × AObj E)} {id : Nat}, id ∉ l.map (·.1) → look l id = none
  | [], _, _ => rfl
  | (i, x) :: r, id, h => by
    unfold look
    rw [if_neg (fun hb => h (by have := Nat.eq_of_beq_eq_true hb; subst this; exact List.mem_cons_self))]
    exact look_none_of (fun hm => h (List.mem_cons_of_mem _ hm))
theorem effIds_mem {r : List (Ent E)} {x : Ent E} (hx : x ∈ r) {id : Nat} (h : id ∈ x.eff.map (·.1)) : id ∈ effIds r := by
  induction r with
  | nil => cases hx
  | cons p r ih =>
    unfold effIds
    cases hx with
    | head => exact List.mem_append_left _ h
    | tail _ hx => exact List.mem_append_right _ (ih hx)
theorem look_selO_skip {D : Nat → Bool} {id : Nat} {r : List (Ent E)} : ∀ {pre : List (Ent E)}, (∀ x ∈ pre, D x.i = true → look x.eff id = none) → look (selO D objs (pre ++ r)) id = look (selO D objs r) id
  | [], _ => rfl
  | p :: pre, h => by
    have ih := look_selO_skip (r := r) (pre := pre) (fun x hx => h x (List.mem_cons_of_mem _ hx))
    simp only [List.cons_append, selO]
    cases hd : D p.i with
    | false => exact ih
    | true =>
      simp only [cond_true]
      rw [look_app, h p List.mem_cons_self hd]
      exact ih

theorem EntsOk.at_ {pre r : List (Ent E)} {e : Ent E} (h : EntsOk O ops n glob objs next (pre ++ e :: r)) : EntOk O ops n glob objs next e r := h.split.2

theorem EntsOk.tail_ {L : List (Ent E)} (h : EntsOk O ops n glob objs next L) {e : Ent E} (he : e ∈ L) : ∃ pre r, L = pre ++ e :: r ∧ EntOk O ops n glob objs next e r := by
  obtain ⟨pre, r, rfl⟩ := List.append_of_mem he
  exact ⟨pre, r, rfl, h.at_⟩

theorem selO_pre {D : Nat → Bool} : ∀ {pre l : List (Ent E)}, (∀ e ∈ pre, D e.i = true → e.eff = []) → selO D objs (pre ++ l) = selO D objs l
  | [], l, _ => rfl
  | p :: pre, l, h => by
    simp only [List.cons_append, selO]
    rw [selO_pre (pre := pre) (fun e he => h e (List.mem_cons_of_mem _ he))]
    cases hd : D p.i with
    | false => rfl
    | true => rw [h p List.mem_cons_self hd]; rfl

theorem selO_congr {D D' : Nat → Bool} : ∀ {r : List (Ent E)}, (∀ e ∈ r, e.eff ≠ [] → D e.i = D' e.i) → selO D objs r = selO D' objs r
  | [], _ => rfl
  | p :: r, h => by
    simp only [selO]
    rw [selO_congr (r := r) (fun e he => h e (List.mem_cons_of_mem _ he))]
    by_cases hp : p.eff = []
    · rw [hp]; cases D p.i <;> cases D' p.i <;> rfl
    · rw [h p List.mem_cons_self hp]

theorem selO_insert {D D' : Nat → Bool} {e : Ent E} {r : List (Ent E)} : ∀ {pre : List (Ent E)} (_ : ∀ x ∈ pre, D' x.i = D x.i) (_ : ∀ x ∈ r, D' x.i = D x.i) (_ : D e.i = false) (_ : D' e.i = true)
    (_ : ∀ x ∈ pre, D x.i = true → ∀ p ∈ x.eff, ∀ q ∈ e.eff, p.1 ≠ q.1) (id : Nat), look (selO D' objs (pre ++ e :: r)) id = (match look e.eff id with | some o => some o | none => look (selO D objs (pre ++ e :: r)) id)
  | [], _, hr, he, he', _, id => by
    simp only [List.nil_append, selO, he, he', cond_true, cond_false]
    rw [selO_congr (D := D') (D' := D) (fun x hx _ => hr x hx), look_app]
    cases look e.eff id <;> rfl
  | p :: pre, hp, hr, he, he', hd, id => by
    have ih := selO_insert (D := D) (D' := D') (e := e) (r := r) (pre := pre) (fun x hx => hp x (List.mem_cons_of_mem _ hx)) hr he he' (fun x hx => hd x (List.mem_cons_of_mem _ hx)) id
    simp only [List.cons_append, selO]
    rw [hp p List.mem_cons_self]
    cases hD : D p.i with
    | false => simpa using ih
    | true =>
      simp only [cond_true]
      rw [look_app, look_app, ih]
      cases hpe : look p.eff id with
      | none => rfl
      | some o =>
        have hm := look_mem _ _ _ hpe
        cases hq : look e.eff id with
        | none => rfl
        | some q =>
          have hm' := look_mem _ _ _ hq
          exact absurd rfl (hd p List.mem_cons_self hD (id, o) hm (id, q) hm')

/-- Objects that are only made: each under its own number. -/
theorem look_simple1 {D : Nat → Bool} : ∀ {L : List (Ent E)}, (∀ e ∈ L, D e.i = true → e.eff = [] ∨ ∃ o, e.eff = [(next + e.i, o)]) → ∀ {id : Nat} {o : AObj E}, look (selO D objs L) id = some o →
    (∃ e ∈ L, D e.i = true ∧ e.eff = [(id, o)]) ∨ look objs id = some o
  | [], _, id, o, h => .inr h
  | p :: r, hs, id, o, h => by
    have ih := look_simple1 (D := D) (L := r) (fun e he => hs e (List.mem_cons_of_mem _ he)) (id := id) (o := o)
    have lift : ((∃ e ∈ r, D e.i = true ∧ e.eff = [(id, o)]) ∨ look objs id = some o) → (∃ e ∈ p :: r, D e.i = true ∧ e.eff = [(id, o)]) ∨ look objs id = some o := by
      rintro (⟨e, he, rest⟩ | h)
      · exact .inl ⟨e, List.mem_cons_of_mem _ he, rest⟩
      · exact .inr h
    simp only [selO] at h
    cases hd : D p.i with
    | false => rw [hd] at h; exact lift (ih h)
    | true =>
      rw [hd] at h
      simp only [cond_true] at h
      rcases hs p List.mem_cons_self hd with he | ⟨ob, he⟩
      · rw [he] at h; exact lift (ih h)
      · rw [he] at h
        simp only [List.cons_append, List.nil_append, look] at h
        split at h
        · rename_i hb
          have := Nat.eq_of_beq_eq_true hb
          cases h
          exact .inl ⟨p, List.mem_cons_self, hd, by rw [he, this]⟩
        · exact lift (ih h)

theorem EntsOk.pairwise {L : List (Ent E)} (h : EntsOk O ops n glob objs next L) : L.Pairwise fun e e' => e.i ≠ e'.i := by
  induction L with
  | nil => exact .nil
  | cons p r ih => exact .cons (fun e he => by have := h.1.lt e he; have := h.2.1; omega) (ih h.1)

theorem look_simple2 {D : Nat → Bool} : ∀ {L : List (Ent E)}, (∀ e ∈ L, D e.i = true → e.eff = [] ∨ ∃ o, e.eff = [(next + e.i, o)]) → L.Pairwise (fun e e' => e.i ≠ e'.i) → (∀ id o, look objs id = some o → id < next) →
    ∀ {id : Nat} {o : AObj E}, ((∃ e ∈ L, D e.i = true ∧ e.eff = [(id, o)]) ∨ look objs id = some o) → look (selO D objs L) id = some o
  | [], _, _, _, id, o, h => by
    rcases h with ⟨e, he, _⟩ | h
    · cases he
    · exact h
  | p :: r, hs, hu, hids, id, o, h => by
    cases hu with
    | cons hu1 hu2 =>
      have ih := look_simple2 (D := D) (L := r) (fun e he => hs e (List.mem_cons_of_mem _ he)) hu2 hids (id := id) (o := o)
      simp only [selO]
      have hrest : (p.eff = [(id, o)] ∧ D p.i = true) ∨ (((∃ e ∈ r, D e.i = true ∧ e.eff = [(id, o)]) ∨ look objs id = some o)) := by
        rcases h with ⟨e, he, h1, h2⟩ | h
        · cases he with
          | head => exact .inl ⟨h2, h1⟩
          | tail _ he => exact .inr (.inl ⟨e, he, h1, h2⟩)
        · exact .inr (.inr h)
      cases hd : D p.i with
      | false =>
        rcases hrest with ⟨_, h⟩ | h
        · rw [hd] at h; cases h
        · exact ih h
      | true =>
        simp only [cond_true]
        rcases hrest with ⟨h, _⟩ | h
        · rw [h]; simp [look]
        · rcases hs p List.mem_cons_self hd with he | ⟨ob, he⟩
          · rw [he]; exact ih h
          · rw [he]
            simp only [List.cons_append, List.nil_append, look]
            rw [if_neg]
            · exact ih h
            · intro hb
              have hid := Nat.eq_of_beq_eq_true hb
              rcases h with ⟨e, her, h1, h2⟩ | h
              · rcases hs e (List.mem_cons_of_mem _ her) h1 with h3 | ⟨o3, h3⟩
                · rw [h3] at h2; cases h2
                · rw [h3] at h2
                  simp only [List.cons.injEq, Prod.mk.injEq] at h2
                  exact hu1 e her (by omega)
              · have := hids id o h
                omega

/-- The objects' numbers lie below the next one. -/
theorem selO_ids {L : List (Ent E)} (hL : EntsOk O ops n glob objs next L) (hids : ∀ id o, look objs id = some o → id < next) (D : Nat → Bool) : ∀ id o, look (selO D objs L) id = some o → id < next + L.length := by
  induction L generalizing D with
  | nil => intro id o h; have := hids id o h; simp; omega
  | cons p r ih =>
    intro id o h
    simp only [selO] at h
    simp only [List.length_cons]
    cases hd : D p.i with
    | false => rw [hd] at h; have := ih hL.1 D id o h; omega
    | true =>
      rw [hd] at h
      simp only [cond_true] at h
      rw [look_app] at h
      cases hp : look p.eff id with
      | none => rw [hp] at h; have := ih hL.1 D id o h; omega
      | some q =>
        obtain ⟨hi, op, res, _, _, _, hev, _, _, _, _, _, heff, _⟩ := hL.2
        rw [heff] at hp
        rcases look_putO hp with ⟨_, h2⟩ | ⟨h1, _⟩ | ⟨h1, _⟩
        · omega
        · obtain ⟨o', h2, _⟩ := evG_upd hev h1
          simp only [stateOf, objsAt] at h2
          split at h2
          · cases h2
          · split at h2
            · have := hids id o' (look_hideA h2).1; omega
            · have := ih hL.1 _ id o' h2; omega
          · have := ih hL.1 _ id o' h2; omega
        · cases h1

theorem objsAt_lt {r : List (Ent E)} (hLr : EntsOk O ops n glob objs next r) (hids : ∀ id o, look objs id = some o → id < next) {c pr id : Nat} {o : AObj E} (h : look (objsAt c pr objs r) id = some o) : id < next + r.length := by
  unfold objsAt at h
  split at h
  · cases h
  · split at h
    · have := hids id o (look_hideA h).1; omega
    · exact selO_ids hLr hids _ id o h
  · exact selO_ids hLr hids _ id o h
theorem effOf_mem {nid : Nat} {r : Res E} {q : Nat × AObj E} (h : q ∈ effOf nid r) : q.1 = nid ∨ ∃ o, r.upd = some (q.1, o) := by
  unfold effOf putO at h
  cases hn : r.new <;> cases hu : r.upd <;> rw [hn, hu] at h <;> simp at h
  · exact .inr ⟨_, by rw [h]⟩
  · exact .inl (by rw [h])
  · rcases h with h | h
    · exact .inl (by rw [h])
    · exact .inr ⟨_, by rw [h]⟩

/-- What the operation finds of the objects is what there is. -/
theorem look_state {L : List (Ent E)} (hL : EntsOk O ops n glob objs next L) {pre r : List (Ent E)} {e : Ent E} (hsplit : L = pre ++ e :: r) (he : EntOk O ops n glob objs next e r) {D : Nat → Bool} (hD : D e.i = false) (hids : ∀ id o, look objs id = some o → id < next)
    (hclosed : ∀ x ∈ L, D x.i = true → ∀ j, Nat.testBit x.pr j = true → D j = true) (hpr : ∀ j, Nat.testBit e.pr j = true → D j = true) {id : Nat} {o : AObj E} (h : look (objsAt e.cls e.pr objs r) id = some o) :
    look (selO D objs L) id = some o := by
  have he0 := he
  obtain ⟨hi, op, res, ho, hpr', hck, _, _, _, _, _, _, _, hcl⟩ := he
  have hck := clsOk_inv hck
  rw [← hcl] at hck
  have hLr : EntsOk O ops n glob objs next r := by rw [hsplit] at hL; exact hL.split.1
  have hcls : e.cls ≠ 0 := fun h0 => by rw [h0] at h; cases h
  have hid : id < next + e.i := by
    rw [hi]
    unfold objsAt at h
    split at h
    · cases h
    · split at h
      · have := hids id o (look_hideA h).1; omega
      · exact selO_ids hLr hids _ id o h
    · exact selO_ids hLr hids _ id o h
  have hsub : ∀ x ∈ r, x ∈ L := fun x hx => by rw [hsplit]; exact List.mem_append_right _ (List.mem_cons_of_mem _ hx)
  have hentr1 : ∀ x ∈ L, x.cls = 0 ∨ x.cls = 1 → x.eff = [] ∨ ∃ o, x.eff = [(next + x.i, o)] := by
    intro x hx hc
    obtain ⟨p1, p2, _, hx'⟩ := hL.tail_ hx
    rcases hc with hc | hc
    · exact .inl (eff_cls0 hx' hc)
    · exact eff_cls1 hx' hc
  -- what stands behind the operation in the text and has been done touches nothing that it finds
  have hpre : ∀ x ∈ pre, D x.i = true → look x.eff id = none := by
    intro x hx hDx
    have hxL : x ∈ L := by rw [hsplit]; exact List.mem_append_left _ hx
    obtain ⟨p1, p2, rfl⟩ := List.append_of_mem hx
    have hx' : EntOk O ops n glob objs next x (p2 ++ e :: r) := by
      refine EntsOk.at_ (pre := p1) ?_
      rw [hsplit] at hL
      simpa using hL
    have hxi := hx'.1
    simp only [List.length_append, List.length_cons] at hxi
    obtain ⟨_, op', res', _, _, hck', _, _, _, _, _, _, _, hcl'⟩ := hx'
    have hck' := clsOk_inv hck' e (by simp)
    rw [← hcl'] at hck'
    obtain ⟨_, _, _, hx''⟩ := hL.tail_ hxL
    have hsimple : x.cls = 0 ∨ x.cls = 1 → look x.eff id = none := by
      intro hc
      rcases hentr1 x hxL hc with h | ⟨o', h⟩
      · rw [h]; rfl
      · rw [h]
        exact look_none_of (by simp; omega)
    rcases ent_cls hx'' with h | h | h
    · exact hsimple (.inl h)
    · exact hsimple (.inr h)
    · have := hck' h hcls
      have := hclosed x hxL hDx e.i this
      rw [hD] at this
      cases this
  rw [hsplit, look_selO_skip hpre]
  simp only [selO, hD, cond_false]
  by_cases h2 : e.cls = 2
  · -- a writer: all that touches objects has been done ahead of it
    rw [h2] at h
    have h : look (selO (Nat.testBit e.pr) objs r) id = some o := h
    rw [selO_congr (D := D) (D' := Nat.testBit e.pr) (fun x hx hne => ?_)]
    · exact h
    · have hb := hck x hx h2 (fun hc => hne (by
        obtain ⟨p1, p2, _, hx'⟩ := hL.tail_ (hsub x hx)
        exact eff_cls0 hx' hc))
      rw [hb, hpr _ hb]
  · have h1 : e.cls = 1 := by
      rcases ent_cls he0 with h | h | h
      · exact absurd h hcls
      · exact h
      · exact absurd h h2
    rw [h1] at h
    simp only [objsAt] at h
    cases h2 : has2 r with
    | false =>
      rw [h2] at h
      have hr1 := has2_inv h2
      have hpw : r.Pairwise (fun e e' => e.i ≠ e'.i) := hLr.pairwise
      refine look_simple2 (D := D) (L := r) (fun x hx _ => hentr1 x (hsub x hx) (hr1 x hx)) hpw hids ?_
      rcases look_simple1 (D := Nat.testBit e.pr) (L := r) (fun x hx _ => hentr1 x (hsub x hx) (hr1 x hx)) h with ⟨x, hx, hb, heff⟩ | h
      · exact .inl ⟨x, hx, hpr _ hb, heff⟩
      · exact .inr h
    | true =>
      rw [h2] at h
      obtain ⟨h3, h4⟩ := look_hideA h
      have := look_selO_skip (D := D) (objs := objs) (id := id) (r := []) (pre := r) (fun x hx _ => look_none_of (fun hm => by
        rw [mem1_true (effIds_mem hx hm)] at h4
        cases h4))
      rw [List.append_nil] at this
      rw [this]
      exact h3

end
end Go.Proofs.YtfoflgciceckoaaGreatDoor.Mir
