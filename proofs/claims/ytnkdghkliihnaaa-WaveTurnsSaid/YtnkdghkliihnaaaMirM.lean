/- The Mirror, part M: a region that leaves its order open: every order comes to what the interpreter says. -/
import Derived.Test.YtnkdghkliihnaaaMirL
namespace Go.Proofs.Ytnkdghkliihnaaa.Mir
open Go Go.RowKit

section
variable {P : Program} {E : Env P} {O : Oracle E} {ops : Array Oper} {n next : Nat} {glob : List (Nat × AV E)} {objs : List (Nat × AObj E)}

theorem eff_cls0 {e : Ent E} {r : List (Ent E)} (h : EntOk O ops n glob objs next e r) (hc : e.cls = 0) : e.eff = [] := by
  obtain ⟨hi, o, res, ho, hpr, _, _, hres, hdn, _, hdst, _, heff, hcls⟩ := h
  rw [← hcls, hc] at hres
  rw [heff]
  cases hu : res.upd with
  | some u => simp [resOk, hu] at hres
  | none =>
    cases hn : res.new with
    | some o => simp [resOk, hu, hn] at hres
    | none => simp [effOf, putO, hu, hn]

theorem eff_cls1 {e : Ent E} {r : List (Ent E)} (h : EntOk O ops n glob objs next e r) (hc : e.cls = 1) : e.eff = [] ∨ ∃ o, e.eff = [(next + e.i, o)] := by
  obtain ⟨hi, o, res, ho, hpr, _, _, hres, hdn, _, hdst, _, heff, hcls⟩ := h
  rw [← hcls, hc] at hres
  rw [heff]
  cases hu : res.upd with
  | some u => simp [resOk, hu] at hres
  | none =>
    cases hn : res.new with
    | none => left; simp [effOf, putO, hu, hn]
    | some o => right; exact ⟨o, by simp [effOf, putO, hu, hn]⟩

theorem opCls_le (O : Oracle E) (o : Op) : opCls O o = 0 ∨ opCls O o = 1 ∨ opCls O o = 2 := by
  cases o <;> simp [opCls]
  rename_i c
  split
  · simp
  · simp
  · rename_i f _
    cases O.isFresh f <;> simp
  · simp

theorem ent_cls {e : Ent E} {r : List (Ent E)} (h : EntOk O ops n glob objs next e r) : e.cls = 0 ∨ e.cls = 1 ∨ e.cls = 2 := by
  obtain ⟨hi, o, res, ho, hpr, _, _, hres, hdn, _, hdst, _, heff, hcls⟩ := h
  rw [hcls]
  exact opCls_le _ _

theorem clsOk_inv : ∀ {c pr : Nat} {r : List (Ent E)}, clsOk c pr r = true → ∀ e ∈ r, (c = 1 → e.cls = 0 ∨ e.cls = 1) ∧ (c = 2 → e.cls ≠ 0 → Nat.testBit pr e.i = true)
  | _, _, [], _, e, he => by cases he
  | c, pr, p :: r, h, e, he => by
    unfold clsOk at h
    simp only [Bool.and_eq_true] at h
    cases he with
    | tail _ he => exact clsOk_inv h.2 e he
    | head =>
      have h1 := h.1
      generalize hq : p.cls = q at h1
      refine ⟨fun hc => ?_, fun hc hne => ?_⟩
      · subst hc
        match q, h1 with
        | 0, _ => exact .inl rfl
        | 1, _ => exact .inr rfl
        | q + 2, h1 => simp at h1
      · subst hc
        match q, h1, hne with
        | 0, _, hne => exact absurd rfl hne
        | q + 1, h1, _ => simpa using h1

theorem EntsOk.at_ {pre r : List (Ent E)} {e : Ent E} (h : EntsOk O ops n glob objs next (pre ++ e :: r)) : EntOk O ops n glob objs next e r := h.split.2

theorem EntsOk.tail_ {L : List (Ent E)} (h : EntsOk O ops n glob objs next L) {e : Ent E} (he : e ∈ L) : ∃ pre r, L = pre ++ e :: r ∧ EntOk O ops n glob objs next e r := by
  obtain ⟨pre, r, rfl⟩ := List.append_of_mem he
  exact ⟨pre, r, rfl, h.at_⟩

theorem selO_pre {D : Nat → Bool} : ∀ {pre l : List (Ent E)}, (∀ e ∈ pre, D e.i = true → e.eff = []) → selO D objs (pre ++ l) = selO D objs l
  | [], l, _ => rfl
  | p :: pre, l, h => by
    simp only [List.cons_append, selO]
    rw [selO_pre (pre := pre) (fun e he => h e (List.mem_cons_of_mem _ he))]
    cases hd : D p.i with
    | false => rfl
    | true => rw [h p List.mem_cons_self hd]; rfl

theorem selO_congr {D D' : Nat → Bool} : ∀ {r : List (Ent E)}, (∀ e ∈ r, e.eff ≠ [] → D e.i = D' e.i) → selO D objs r = selO D' objs r
  | [], _ => rfl
  | p :: r, h => by
    simp only [selO]
    rw [selO_congr (r := r) (fun e he => h e (List.mem_cons_of_mem _ he))]
    by_cases hp : p.eff = []
    · rw [hp]; cases D p.i <;> cases D' p.i <;> rfl
    · rw [h p List.mem_cons_self hp]

theorem selO_insert {D D' : Nat → Bool} {e : Ent E} {r : List (Ent E)} : ∀ {pre : List (Ent E)} (_ : ∀ x ∈ pre, D' x.i = D x.i) (_ : ∀ x ∈ r, D' x.i = D x.i) (_ : D e.i = false) (_ : D' e.i = true)
    (_ : ∀ x ∈ pre, D x.i = true → ∀ p ∈ x.eff, ∀ q ∈ e.eff, p.1 ≠ q.1) (id : Nat), look (selO D' objs (pre ++ e :: r)) id = (match look e.eff id with | some o => some o | none => look (selO D objs (pre ++ e :: r)) id)
  | [], _, hr, he, he', _, id => by
    simp only [List.nil_append, selO, he, he', cond_true, cond_false]
    rw [selO_congr (D := D') (D' := D) (fun x hx _ => hr x hx), look_app]
    cases look e.eff id <;> rfl
  | p :: pre, hp, hr, he, he', hd, id => by
    have ih := selO_insert (D := D) (D' := D') (e := e) (r := r) (pre := pre) (fun x hx => hp x (List.mem_cons_of_mem _ hx)) hr he he' (fun x hx => hd x (List.mem_cons_of_mem _ hx)) id
    simp only [List.cons_append, selO]
    rw [hp p List.mem_cons_self]
    cases hD : D p.i with
    | false => simpa using ih
    | true =>
      simp only [cond_true]
      rw [look_app, look_app, ih]
      cases hpe : look p.eff id with
      | none => rfl
      | some o =>
        have hm := look_mem _ _ _ hpe
        cases hq : look e.eff id with
        | none => rfl
        | some q =>
          have hm' := look_mem _ _ _ hq
          exact absurd rfl (hd p List.mem_cons_self hD (id, o) hm (id, q) hm')

/-- Objects that are only made: each under its own number. -/
theorem look_simple1 {D : Nat → Bool} : ∀ {L : List (Ent E)}, (∀ e ∈ L, D e.i = true → e.eff = [] ∨ ∃ o, e.eff = [(next + e.i, o)]) → ∀ {id : Nat} {o : AObj E}, look (selO D objs L) id = some o →
    (∃ e ∈ L, D e.i = true ∧ e.eff = [(id, o)]) ∨ look objs id = some o
  | [], _, id, o, h => .inr h
  | p :: r, hs, id, o, h => by
    have ih := look_simple1 (D := D) (L := r) (fun e he => hs e (List.mem_cons_of_mem _ he)) (id := id) (o := o)
    have lift : ((∃ e ∈ r, D e.i = true ∧ e.eff = [(id, o)]) ∨ look objs id = some o) → (∃ e ∈ p :: r, D e.i = true ∧ e.eff = [(id, o)]) ∨ look objs id = some o := by
      rintro (⟨e, he, rest⟩ | h)
      · exact .inl ⟨e, List.mem_cons_of_mem _ he, rest⟩
      · exact .inr h
    simp only [selO] at h
    cases hd : D p.i with
    | false => rw [hd] at h; exact lift (ih h)
    | true =>
      rw [hd] at h
      simp only [cond_true] at h
      rcases hs p List.mem_cons_self hd with he | ⟨ob, he⟩
      · rw [he] at h; exact lift (ih h)
      · rw [he] at h
        simp only [List.cons_append, List.nil_append, look] at h
        split at h
        · rename_i hb
          have := Nat.eq_of_beq_eq_true hb
          cases h
          exact .inl ⟨p, List.mem_cons_self, hd, by rw [he, this]⟩
        · exact lift (ih h)

theorem EntsOk.pairwise {L : List (Ent E)} (h : EntsOk O ops n glob objs next L) : L.Pairwise fun e e' => e.i ≠ e'.i := by
  induction L with
  | nil => exact .nil
  | cons p r ih => exact .cons (fun e he => by have := h.1.lt e he; have := h.2.1; omega) (ih h.1)

theorem look_simple2 {D : Nat → Bool} : ∀ {L : List (Ent E)}, (∀ e ∈ L, D e.i = true → e.eff = [] ∨ ∃ o, e.eff = [(next + e.i, o)]) → L.Pairwise (fun e e' => e.i ≠ e'.i) → (∀ id o, look objs id = some o → id < next) →
    ∀ {id : Nat} {o : AObj E}, ((∃ e ∈ L, D e.i = true ∧ e.eff = [(id, o)]) ∨ look objs id = some o) → look (selO D objs L) id = some o
  | [], _, _, _, id, o, h => by
    rcases h with ⟨e, he, _⟩ | h
    · cases he
    · exact h
  | p :: r, hs, hu, hids, id, o, h => by
    cases hu with
    | cons hu1 hu2 =>
      have ih := look_simple2 (D := D) (L := r) (fun e he => hs e (List.mem_cons_of_mem _ he)) hu2 hids (id := id) (o := o)
      simp only [selO]
      have hrest : (p.eff = [(id, o)] ∧ D p.i = true) ∨ (((∃ e ∈ r, D e.i = true ∧ e.eff = [(id, o)]) ∨ look objs id = some o)) := by
        rcases h with ⟨e, he, h1, h2⟩ | h
        · cases he with
          | head => exact .inl ⟨h2, h1⟩
          | tail _ he => exact .inr (.inl ⟨e, he, h1, h2⟩)
        · exact .inr (.inr h)
      cases hd : D p.i with
      | false =>
        rcases hrest with ⟨_, h⟩ | h
        · rw [hd] at h; cases h
        · exact ih h
      | true =>
        simp only [cond_true]
        rcases hrest with ⟨h, _⟩ | h
        · rw [h]; simp [look]
        · rcases hs p List.mem_cons_self hd with he | ⟨ob, he⟩
          · rw [he]; exact ih h
          · rw [he]
            simp only [List.cons_append, List.nil_append, look]
            rw [if_neg]
            · exact ih h
            · intro hb
              have hid := Nat.eq_of_beq_eq_true hb
              rcases h with ⟨e, her, h1, h2⟩ | h
              · rcases hs e (List.mem_cons_of_mem _ her) h1 with h3 | ⟨o3, h3⟩
                · rw [h3] at h2; cases h2
                · rw [h3] at h2
                  simp only [List.cons.injEq, Prod.mk.injEq] at h2
                  exact hu1 e her (by omega)
              · have := hids id o h
                omega

/-- What the operation finds of the objects is what there is. -/
theorem look_state {L : List (Ent E)} (hL : EntsOk O ops n glob objs next L) {pre r : List (Ent E)} {e : Ent E} (hsplit : L = pre ++ e :: r) (he : EntOk O ops n glob objs next e r) {D : Nat → Bool} (hD : D e.i = false) (hids : ∀ id o, look objs id = some o → id < next)
    (hclosed : ∀ x ∈ L, D x.i = true → ∀ j, Nat.testBit x.pr j = true → D j = true) (hpr : ∀ j, Nat.testBit e.pr j = true → D j = true) {id : Nat} {o : AObj E} (hcls : e.cls ≠ 0) (h : look (selO (Nat.testBit e.pr) objs r) id = some o) :
    look (selO D objs L) id = some o := by
  obtain ⟨hi, op, res, ho, hpr', hck, _, _, _, _, _, _, _, hcl⟩ := he
  have hck := clsOk_inv hck
  rw [← hcl] at hck
  -- what stands behind the operation in the text and has been done
  have hpre : ∀ x ∈ pre, D x.i = true → x.cls = 0 ∨ (x.cls = 1 ∧ e.cls ≠ 2) := by
    intro x hx hDx
    have hxL : x ∈ L := by rw [hsplit]; exact List.mem_append_left _ hx
    obtain ⟨p1, p2, rfl⟩ := List.append_of_mem hx
    have hx' : EntOk O ops n glob objs next x (p2 ++ e :: r) := by
      refine EntsOk.at_ (pre := p1) ?_
      rw [hsplit] at hL
      simpa using hL
    obtain ⟨_, op', res', _, _, hck', _, _, _, _, _, _, _, hcl'⟩ := hx'
    have hck' := clsOk_inv hck' e (by simp)
    rw [← hcl'] at hck'
    obtain ⟨_, _, _, hx''⟩ := hL.tail_ hxL
    rcases ent_cls hx'' with h | h | h
    · exact .inl h
    · refine .inr ⟨h, fun h2 => ?_⟩
      rcases hck'.1 h with h' | h' <;> omega
    · have := hck'.2 h hcls
      have := hclosed x hxL hDx e.i this
      rw [hD] at this
      cases this
  have hent0 : ∀ x ∈ L, x.cls = 0 → x.eff = [] := by
    intro x hx hc
    obtain ⟨p1, p2, _, hx'⟩ := hL.tail_ hx
    exact eff_cls0 hx' hc
  have hentr : ∀ x ∈ r, x.cls = 0 → x.eff = [] := fun x hx => hent0 x (by rw [hsplit]; exact List.mem_append_right _ (List.mem_cons_of_mem _ hx))
  have hentp : ∀ x ∈ pre, x.cls = 0 → x.eff = [] := fun x hx => hent0 x (by rw [hsplit]; exact List.mem_append_left _ hx)
  have hentr1 : ∀ x ∈ L, x.cls = 0 ∨ x.cls = 1 → x.eff = [] ∨ ∃ o, x.eff = [(next + x.i, o)] := by
    intro x hx hc
    obtain ⟨p1, p2, _, hx'⟩ := hL.tail_ hx
    rcases hc with hc | hc
    · exact .inl (eff_cls0 hx' hc)
    · exact eff_cls1 hx' hc
  by_cases h2 : e.cls = 2
  · -- a writer: all that touches objects has been done ahead of it, and nothing else
    rw [hsplit, selO_pre (fun x hx hDx => by
      rcases hpre x hx hDx with h | ⟨_, h⟩
      · exact hentp x hx h
      · exact absurd h2 h)]
    simp only [selO, hD, cond_false]
    rw [selO_congr (D := D) (D' := Nat.testBit e.pr) (fun x hx hne => ?_)]
    · exact h
    · have hb := (hck x hx).2 h2 (fun hc => hne (hentr x hx hc))
      rw [hb, hpr _ hb]
  · have h1 : e.cls = 1 := by
      rcases ent_cls (show EntOk O ops n glob objs next e r from by rw [hsplit] at hL; exact hL.at_) with h | h | h
      · exact absurd h hcls
      · exact h
      · exact absurd h h2
    have hr1 : ∀ x ∈ r, x.cls = 0 ∨ x.cls = 1 := fun x hx => (hck x hx).1 h1
    have hsub : ∀ x ∈ r, x ∈ L := fun x hx => by rw [hsplit]; exact List.mem_append_right _ (List.mem_cons_of_mem _ hx)
    refine look_simple2 (D := D) (L := L) (fun x hx hDx => hentr1 x hx ?_) hL.pairwise hids ?_
    · rw [hsplit] at hx
      rcases List.mem_append.1 hx with hx | hx
      · rcases hpre x hx hDx with h | ⟨h, _⟩
        · exact .inl h
        · exact .inr h
      · cases hx with
        | head => rw [hD] at hDx; cases hDx
        | tail _ hx => exact hr1 x hx
    · rcases look_simple1 (D := Nat.testBit e.pr) (L := r) (fun x hx _ => hentr1 x (hsub x hx) (hr1 x hx)) h with ⟨x, hx, hb, heff⟩ | h
      · exact .inl ⟨x, hsub x hx, hpr _ hb, heff⟩
      · exact .inr h
end
end Go.Proofs.Ytnkdghkliihnaaa.Mir
