/- The Mirror, part N: the regions' theorem: whatever order is drawn. -/
import Derived.Test.YtfoflgciceckoaaGreatDoorMirM
namespace Go.Proofs.YtfoflgciceckoaaGreatDoor.Mir
open Go Go.RowKit

section
variable {P : Program} {E : Env P} {O : Oracle E} {ops : Array Oper} {n next : Nat} {glob : List (Nat × AV E)} {objs : List (Nat × AObj E)} {w0 : Start} {ro0 : Nat → Nat → Prop}

/-- What holds once the operations D have been done. -/
structure Inv (E : Env P) (w0 : Start) (ro0 : Nat → Nat → Prop) (ops : Array Oper) (n next : Nat) (glob : List (Nat × AV E)) (objs : List (Nat × AObj E)) (L : List (Ent E)) (D : Nat → Bool) (a : Act) (w : World) (ι : Nat → Option Gh) (ro : Nat → Nat → Prop) : Prop where
  base : Base w0 ro0 a w ι ro
  size : a.tmps.size = n
  slots : ∀ e ∈ L, D e.i = true → ∀ t, e.dst = some t → ∃ v, a.tmps[t]? = some v ∧ SRep E w ro ι a.tmps v e.x
  gl : ∀ t x, look glob t = some x → (∀ e ∈ L, e.dst = some t → D e.i = false) → ∃ v, a.tmps[t]? = some v ∧ SRep E w ro ι a.tmps v x
  ob : ∀ id o, look (selO D objs L) id = some o → ObjOk E w ro ι id o
  inj : Inj E (selO D objs L) ι
  fresh : ∀ id, next ≤ id → ι id ≠ none → ∃ e ∈ L, D e.i = true ∧ id = next + e.i
  closed : ∀ e ∈ L, D e.i = true → ∀ j, Nat.testBit e.pr j = true → D j = true

theorem ObjOk.notLive {w : World} {ro : Nat → Nat → Prop} {ι : Nat → Option Gh} {id : Nat} {o : AObj E} (h : o.live = false) : ObjOk E w ro ι id o := by
  cases o with
  | dead => trivial
  | box cs => cases h
  | tail l => intro hl; simp only [AObj.live] at h; rw [h] at hl; cases hl
  | row t l => cases h

theorem ObjOk.ghost {w : World} {ro : Nat → Nat → Prop} {ι : Nat → Option Gh} {id : Nat} {o : AObj E} (h : ObjOk E w ro ι id o) (hl : o.live = true) : ι id ≠ none := by
  cases o with
  | dead => cases hl
  | box cs => obtain ⟨gh, _, _, _, hi, _⟩ := h; rw [hi]; simp
  | tail l => obtain ⟨gh, _, hi, _⟩ := h hl; rw [hi]; simp
  | row t l => obtain ⟨gh, _, hi, _⟩ := h; rw [hi]; simp

/-- A slot that is known under a guard: the guard's operation came before. -/
theorem cond_guard {e : Ent E} {r : List (Ent E)} (he : EntOk O ops n glob objs next e r) {gs : Nat} {want : Bool} {u : AV E} (hx : e.x = .cond gs want u) : ∃ g ∈ r, Nat.testBit e.pr g.i = true ∧ g.dst = some gs := by
  obtain ⟨hi, o, res, ho, hpr, _, hev, _, _, _, _, hex, _⟩ := he
  rw [hex] at hx
  unfold evG at hev
  split at hev
  · -- without a guard no value hangs on one
    have h2 := (evG_plain hev).2
    rw [hx] at h2
    cases h2
  · rename_i j want' hg
    split at hev
    · cases hev
    · rename_i gs' hgs
      split at hev
      · cases hev
      · rename_i b asm hguard
        split at hev
        · cases hev
          cases hx
          -- the guard's slot is known, so its operation is among those that came before
          have hl : ∃ y, look (stateOf n ops glob objs (opCls O o.op) e.pr (next + e.i) e.i r).tmps gs = some y ∧ y ≠ .any := by
            unfold guardOf at hguard
            split at hguard
            · rename_i b0 hb; exact ⟨_, hb, by simp⟩
            · rename_i j0 w0 b0 hb; exact ⟨_, hb, by simp⟩
            · cases hguard
          obtain ⟨y, hy, hne⟩ := hl
          simp only [stateOf] at hy
          rw [look_app] at hy
          cases hs : look (selT (Nat.testBit e.pr) r) gs with
          | some z =>
            obtain ⟨g, hg1, hg2, hg3, _⟩ := look_selT hs
            exact ⟨g, hg1, hg2, hg3⟩
          | none =>
            rw [hs, look_app] at hy
            simp only at hy
            cases hh : look (hideI (E := E) (prTab ops) ops.toList e.i ops.toList 0) gs with
            | some z =>
              rw [hh] at hy
              cases hy
              exact absurd (look_hideI hh).1 hne
            | none =>
              exfalso
              unfold dstOf at hgs
              cases hj : ops[j]? with
              | none => rw [hj] at hgs; cases hgs
              | some oj =>
                rw [hj] at hgs
                have h1 := (look_hideI_none hh j oj (by simpa using hj) (by simpa using hgs)).2
                rw [Nat.zero_add] at h1
                have h2 : isGuardN ops.toList j = true := by
                  unfold isGuardN
                  rw [List.any_eq_true]
                  exact ⟨o, Array.mem_toList_iff.2 (Array.mem_of_getElem? ho), by rw [hg]; simp⟩
                rw [h2] at h1
                cases h1
        · cases hev

theorem ops_rng {L : List (Ent E)} (hL : EntsOk O ops n glob objs next L) (hlen : L.length = ops.size) : ∀ o ∈ ops.toList, ∃ e ∈ L, e.dst = o.dst ∧ ∀ t, o.dst = some t → t < n := by
  intro o ho
  obtain ⟨j, hj⟩ := List.getElem?_of_mem ho
  have hj' : ops[j]? = some o := by simpa using hj
  have hlt : j < ops.size := (Array.getElem?_eq_some_iff.1 hj').1
  obtain ⟨e, he, hei⟩ := hL.has j (by omega)
  obtain ⟨pre, r, _, hi, op, res, hop, _, _, _, _, hdn, _, hdst, _⟩ := hL.tail_ he
  rw [hei, hj'] at hop
  cases hop
  refine ⟨e, he, hdst, fun t ht => ?_⟩
  rw [ht] at hdn
  exact (dstNew_inv hdn).1

/-- One operation more. -/
theorem inv_step (hO : OracleOk E O) {L : List (Ent E)} (hL : EntsOk O ops n glob objs next L) (hlen : L.length = ops.size) (hnc : NoCond glob) (hids : ∀ id o, look objs id = some o → id < next) {D D' : Nat → Bool} {a : Act} {w : World} {ι : Nat → Option Gh} {ro : Nat → Nat → Prop}
    (hinv : Inv E w0 ro0 ops n next glob objs L D a w ι ro) {e : Ent E} (heL : e ∈ L) (hDe : D e.i = false) {o : Oper} (ho : ops[e.i]? = some o) (hready : ∀ ed ∈ o.after.toList, Region.binds .any ed = true → D ed.on = true)
    (hD' : ∀ j, D' j = true ↔ (D j = true ∨ j = e.i)) {K : Act → World → Prop} {Q : Exit → Act → World → Prop} (hK : ∀ a' w' ι' ro', Inv E w0 ro0 ops n next glob objs L D' a' w' ι' ro' → K a' w') :
    if Region.wanted o (yielded ops a.tmps) = true then o.wp P a w K Q else K (a.put o.dst undef) w := by
  obtain ⟨pre, r, hsplit, hent⟩ := hL.tail_ heL
  have hent' := hent
  obtain ⟨hi, o', res, ho', hpr, hck, hev, hres, hdn, hok, hdst, hex, heff, hcls⟩ := hent
  rw [ho] at ho'
  cases ho'
  have hrL : ∀ x ∈ r, x ∈ L := fun x hx => by rw [hsplit]; exact List.mem_append_right _ (List.mem_cons_of_mem _ hx)
  -- what came before has been done
  have hprD : ∀ j, Nat.testBit e.pr j = true → D j = true := by
    intro j hj
    obtain ⟨ed, hed, hb, x, hx, hxi, hj'⟩ := (predsOf_inv hpr).1 j hj
    have hDx : D ed.on = true := hready ed hed hb
    rcases hj' with rfl | hj'
    · exact hDx
    · exact hinv.closed x (hrL x hx) (by rw [hxi]; exact hDx) j hj'
  have hfresh : ι (next + e.i) = none := by
    cases hgh : ι (next + e.i) with
    | none => rfl
    | some gh =>
      exfalso
      obtain ⟨x, hx, hDx, hid⟩ := hinv.fresh (next + e.i) (by omega) (by rw [hgh]; simp)
      have := hL.uniq e heL x hx (by omega)
      subst this
      rw [hDe] at hDx
      cases hDx
  have hobjs : ∀ id ob, look (stateOf n ops glob objs (opCls O o.op) e.pr (next + e.i) e.i r).objs id = some ob → look (selO D objs L) id = some ob := by
    intro id ob hl
    simp only [stateOf] at hl
    rw [← hcls] at hl
    exact look_state hL hsplit hent' hDe hids hinv.closed hprD hl
  have htm : TmOk E w ro ι a (stateOf n ops glob objs (opCls O o.op) e.pr (next + e.i) e.i r).tmps := by
    intro t x hl
    simp only [stateOf] at hl
    rw [look_app] at hl
    cases hs : look (selT (Nat.testBit e.pr) r) t with
    | some z =>
      rw [hs] at hl
      cases hl
      obtain ⟨g, hg1, hg2, hg3, hg4⟩ := look_selT hs
      rw [hg4]
      exact hinv.slots g (hrL g hg1) (hprD _ hg2) t hg3
    | none =>
      rw [hs, look_app] at hl
      simp only at hl
      cases hh : look (hideI (E := E) (prTab ops) ops.toList e.i ops.toList 0) t with
      | some z =>
        rw [hh] at hl
        cases hl
        obtain ⟨hz, op, hop, hopd⟩ := look_hideI hh
        subst hz
        obtain ⟨_, _, _, hlt⟩ := ops_rng hL hlen op hop
        have hlt := hlt t hopd
        have hsz : t < a.tmps.size := by rw [hinv.size]; exact hlt
        exact ⟨a.tmps[t], Array.getElem?_eq_getElem hsz, .any _⟩
      | none =>
        rw [hh] at hl
        refine hinv.gl t x hl fun x' hx' hd' => ?_
        obtain ⟨p1, p2, hsp', hx2⟩ := hL.tail_ hx'
        obtain ⟨_, op, _, hop, _, _, _, _, _, _, hdd, _⟩ := hx2
        have h1 := (look_hideI_none hh x'.i op (by simpa using hop) (by rw [← hdd]; exact hd')).1
        rw [Nat.zero_add] at h1
        unfold tabBit at h1
        rw [hL.tab hlen x' hx'] at h1
        cases hDx : D x'.i with
        | false => rfl
        | true =>
          have := hinv.closed x' hx' hDx e.i h1
          rw [hDe] at this
          cases this
  refine evG_sound (S := stateOf n ops glob objs (opCls O o.op) e.pr (next + e.i) e.i r) hinv.base.rolt htm (fun id ob hl => hinv.ob id ob (hobjs id ob hl)) hfresh hO hev hok fun val w' ι' ro' hp hslot => ?_
  have hupd : ∀ id ob, res.upd = some (id, ob) → ∃ o', look (selO D objs L) id = some o' ∧ o'.live = true := by
    intro id ob hu
    obtain ⟨o', h1, h2⟩ := evG_upd hev hu
    exact ⟨o', hobjs id o' h1, h2⟩
  have hilt : ∀ id gh k, ι id = some gh → gh.blk = some k → k < w.heap.size := fun id gh k h1 h2 => (hinv.base.ilt id gh k h1 h2).2
  have hext := hp.ext hfresh
  have hD'pre : ∀ x ∈ L, x.i ≠ e.i → D' x.i = D x.i := by
    intro x _ hne
    cases hd : D x.i with
    | true => exact (hD' x.i).2 (.inl hd)
    | false =>
      cases hd' : D' x.i with
      | false => rfl
      | true =>
        rcases (hD' x.i).1 hd' with h | h
        · rw [hd] at h; cases h
        · exact absurd h hne
  have hlive : ∀ id ob, look (selO D objs L) id = some ob → ob.live = true → id ≠ next + e.i := by
    intro id ob hl hlv he
    subst he
    exact (hinv.ob _ ob hl).ghost hlv hfresh
  have hneL : ∀ x ∈ L, x ≠ e → x.i ≠ e.i := fun x hx hne hi => hne (hL.uniq x hx e heL hi)
  have hpreI : ∀ x ∈ pre, x.i ≠ e.i := by
    intro x hx
    have hp' := hL.pairwise
    rw [hsplit, List.pairwise_append] at hp'
    exact hp'.2.2 x hx e List.mem_cons_self
  have hrI : ∀ x ∈ r, x.i ≠ e.i := by
    intro x hx
    have hp' := hL.pairwise
    rw [hsplit, List.pairwise_append] at hp'
    cases hp'.2.1 with
    | cons h1 _ => exact fun h => h1 x hx h.symm
  -- the objects behind the operation
  have hlook : ∀ id ob, look (selO D' objs L) id = some ob → look e.eff id = some ob ∨ (look e.eff id = none ∧ look (selO D objs L) id = some ob) := by
    intro id ob hl
    rw [hsplit] at hl
    rw [selO_insert (D := D) (D' := D') (e := e) (r := r) (pre := pre) (fun x hx => hD'pre x (by rw [hsplit]; exact List.mem_append_left _ hx) (hpreI x hx)) (fun x hx => hD'pre x (hrL x hx) (hrI x hx)) hDe ((hD' e.i).2 (.inr rfl)) ?_ id] at hl
    · rw [← hsplit] at hl
      cases hq : look e.eff id with
      | none => rw [hq] at hl; exact .inr ⟨rfl, hl⟩
      | some q => rw [hq] at hl; cases hl; exact .inl rfl
    · -- no object is touched twice out of the text's order
      intro x hx hDx p hp q hq heq
      have hxL : x ∈ L := by rw [hsplit]; exact List.mem_append_left _ hx
      obtain ⟨p1, p2, hsp, hx'⟩ := hL.tail_ hxL
      have hcl0 : e.cls ≠ 0 := by
        intro h0
        rw [eff_cls0 hent' h0] at hq
        cases hq
      -- x stands behind e in the text
      have hex2 : e ∈ p2 := by
        have h1 : e ∈ p1 ++ x :: p2 := by rw [← hsp]; exact heL
        have hxe : x.i > e.i := by
          obtain ⟨q1, q2, rfl⟩ := List.append_of_mem hx
          have hxx : EntOk O ops n glob objs next x (q2 ++ e :: r) := by
            refine EntsOk.at_ (pre := q1) ?_
            rw [hsplit] at hL
            simpa using hL
          have := hxx.1
          simp only [List.length_append, List.length_cons] at this
          omega
        rcases List.mem_append.1 h1 with h | h
        · exfalso
          obtain ⟨q1, q2, rfl⟩ := List.append_of_mem h
          have hee : EntOk O ops n glob objs next e (q2 ++ x :: p2) := by
            refine EntsOk.at_ (pre := q1) ?_
            rw [hsp] at hL
            simpa using hL
          have h2 := hee.1
          have h3 := hx'.1
          simp only [List.length_append, List.length_cons] at h2
          omega
        · cases h with
          | head => exact absurd rfl (hpreI _ hx)
          | tail _ h => exact h
      have hgt : e.i < x.i := by
        obtain ⟨q1, q2, hq⟩ := List.append_of_mem hex2
        have h1 : EntsOk O ops n glob objs next p2 := by rw [hsp] at hL; exact hL.split.1
        rw [hq] at h1
        have h2 := h1.at_.1
        have h3 := hx'.1
        rw [hq] at h3
        simp only [List.length_append, List.length_cons] at h3
        omega
      obtain ⟨_, opx, _, _, _, hckx, _, _, _, _, _, _, _, hclx⟩ := hx'
      have hckx := clsOk_inv hckx e hex2
      rw [← hclx] at hckx
      obtain ⟨_, _, _, hx''⟩ := hL.tail_ hxL
      rcases ent_cls hx'' with h | h | h
      · rw [eff_cls0 hx'' h] at hp; cases hp
      · rcases eff_cls1 hx'' h with h1 | ⟨o1, h1⟩
        · rw [h1] at hp; cases hp
        · rw [h1] at hp
          simp only [List.mem_singleton] at hp
          have hxe2 := hpreI x hx
          have hpq : p.1 = next + x.i := by rw [hp]
          rw [heff] at hq
          rcases effOf_mem hq with hq1 | ⟨o1, hq1⟩
          · omega
          · obtain ⟨o2, hq2, _⟩ := evG_upd hev hq1
            simp only [stateOf] at hq2
            have := objsAt_lt (by rw [hsplit] at hL; exact hL.split.1) hids hq2
            have := hent'.1
            omega
      · have := hinv.closed x hxL hDx e.i (hckx h hcl0)
        rw [hDe] at this
        cases this
  have heffl : ∀ id ob, look e.eff id = some ob → (res.new = some ob ∧ id = next + e.i) ∨ res.upd = some (id, ob) := by
    intro id ob hl
    rw [heff] at hl
    rcases look_putO hl with h | ⟨h, _⟩ | ⟨h, _⟩
    · exact .inl h
    · exact .inr h
    · cases h
  have heffn : ∀ id, look e.eff id = none → (∀ ob, res.upd ≠ some (id, ob)) ∧ (id = next + e.i → res.new = none) := by
    intro id hl
    rw [heff] at hl
    unfold effOf putO at hl
    refine ⟨fun ob hu => ?_, fun hid => ?_⟩
    · rw [hu] at hl
      cases hn : res.new <;> rw [hn] at hl <;> simp [look] at hl <;> (split at hl <;> cases hl)
    · cases hn : res.new with
      | none => rfl
      | some q => rw [hn, hid] at hl; simp [look] at hl
  refine hK _ w' ι' ro' {
    base := hinv.base.step hp hfresh o.dst
    size := put_size.trans hinv.size
    slots := fun x hx hDx t ht => ?_
    gl := fun t x hl hno => ?_
    ob := fun id ob hl => ?_
    inj := ?_
    fresh := fun id hid hgh => ?_
    closed := fun x hx hDx j hj => ?_ }
  · -- the slots
    by_cases hxe : x = e
    · subst hxe
      rw [hdst] at ht
      rw [ht] at hdn
      obtain ⟨hlt, hgs, hnew⟩ := dstNew_inv hdn
      have hsz : t < a.tmps.size := by rw [hinv.size]; exact hlt
      refine ⟨val, by rw [ht]; simp [Act.put, hsz], ?_⟩
      rw [hex]
      refine hslot _ fun gs want u hc => ?_
      rw [ht]
      exact put_get (fun h => by cases h; exact hgs _ _ _ hc rfl)
    · have hDx' : D x.i = true := by
        rcases (hD' x.i).1 hDx with h | h
        · exact h
        · exact absurd h (hneL x hx hxe)
      obtain ⟨v, hv, hs⟩ := hinv.slots x hx hDx' t ht
      have hdne : o.dst ≠ some t := fun h => hxe (hL.dst_uniq x hx e heL t ht (by rw [hdst]; exact h))
      refine ⟨v, (put_get hdne).trans hv, (hs.mono hp.mono hp.cell hext).tm fun gs want u hc => ?_⟩
      obtain ⟨p1, p2, hsp, hx'⟩ := hL.tail_ hx
      obtain ⟨g, hg, hgb, hgd⟩ := cond_guard hx' hc
      refine put_get fun h => ?_
      have hgL : g ∈ L := by rw [hsp]; exact List.mem_append_right _ (List.mem_cons_of_mem _ hg)
      have hge := hL.dst_uniq g hgL e heL gs hgd (by rw [hdst]; exact h)
      subst hge
      have := hinv.closed x hx hDx' g.i hgb
      rw [hDe] at this
      cases this
  · -- the rest of the frame
    obtain ⟨v, hv, hs⟩ := hinv.gl t x hl fun x' hx' hd' => by
      cases hDx : D x'.i with
      | false => rfl
      | true =>
        have h1 := hno x' hx' hd'
        rw [(hD' x'.i).2 (.inl hDx)] at h1
        cases h1
    have hdne : o.dst ≠ some t := fun hd => by
      have h1 := hno e heL (by rw [hdst]; exact hd)
      rw [(hD' e.i).2 (.inr rfl)] at h1
      cases h1
    refine ⟨v, (put_get hdne).trans hv, (hs.mono hp.mono hp.cell hext).tm fun gs want u hc => ?_⟩
    have := hnc _ (look_mem _ _ _ hl)
    rw [hc] at this
    cases this
  · -- the objects
    rcases hlook id ob hl with h | ⟨h, h'⟩
    · rcases heffl id ob h with ⟨h1, h2⟩ | h
      · subst h2; exact hp.new ob h1
      · exact hp.upd id ob h
    · cases hlv : ob.live with
      | false => exact .notLive hlv
      | true => exact ObjOk.step hp hfresh hinv.inj hupd hilt h' (hlive id ob h' hlv) (heffn id h).1 (hinv.ob id ob h')
  · refine inj_step hp hinv.inj hupd hilt hlive _ fun id ob hl => ?_
    rcases hlook id ob hl with h | ⟨h, h'⟩
    · rcases heffl id ob h with h | h
      · exact .inl h
      · exact .inr (.inl h)
    · exact .inr (.inr ⟨h', (heffn id h).1⟩)
  · by_cases hne : id = next + e.i
    · exact ⟨e, heL, (hD' e.i).2 (.inr rfl), hne⟩
    · rw [hp.iold id hne] at hgh
      obtain ⟨x, hx, hDx, h⟩ := hinv.fresh id hid hgh
      exact ⟨x, hx, (hD' x.i).2 (.inl hDx), h⟩
  · by_cases hxe : x = e
    · subst hxe; exact (hD' j).2 (.inl (hprD j hj))
    · have hDx' : D x.i = true := by
        rcases (hD' x.i).1 hDx with h | h
        · exact h
        · exact absurd h (hneL x hx hxe)
      exact (hD' j).2 (.inl (hinv.closed x hx hDx' j hj))

theorem ready_iff (listed : Array Bool) (i : Nat) : i ∈ Region.ready .any ops listed ↔ i < ops.size ∧ listed.getD i true = false ∧ ∃ o, ops[i]? = some o ∧ ∀ ed ∈ o.after.toList, Region.binds .any ed = true → listed.getD ed.on false = true := by
  unfold Region.ready
  simp only [List.mem_filter, List.mem_range, Bool.and_eq_true, Bool.not_eq_true']
  constructor
  · rintro ⟨h1, h2, h3⟩
    refine ⟨h1, h2, ?_⟩
    rw [Array.getElem?_eq_getElem h1] at h3 ⊢
    refine ⟨_, rfl, fun ed hed hb => ?_⟩
    simp only [Option.map_some, Option.getD_some, Array.all_eq_true_iff_forall_mem] at h3
    have := h3 ed (Array.mem_toList_iff.1 hed)
    rw [hb] at this
    simpa using this
  · rintro ⟨h1, h2, o, ho, h3⟩
    refine ⟨h1, h2, ?_⟩
    rw [ho]
    simp only [Option.map_some, Option.getD_some, Array.all_eq_true_iff_forall_mem]
    intro ed hed
    cases hb : Region.binds .any ed with
    | false => rfl
    | true => simpa using h3 ed (Array.mem_toList_iff.2 hed) hb

theorem selT_congr {D D' : Nat → Bool} : ∀ {L : List (Ent E)}, (∀ e ∈ L, D e.i = D' e.i) → selT D L = selT D' L
  | [], _ => rfl
  | p :: r, h => by
    simp only [selT]
    rw [selT_congr (L := r) (fun e he => h e (List.mem_cons_of_mem _ he)), h p List.mem_cons_self]

theorem getD_set (listed : Array Bool) {i j : Nat} (hi : i < listed.size) : (listed.setIfInBounds i true).getD j false = true ↔ (listed.getD j false = true ∨ j = i) := by
  simp only [Array.getD_eq_getD_getElem?, Array.getElem?_setIfInBounds]
  by_cases h : i = j
  · subst h; simp [hi]
  · rw [if_neg h]
    simp
    exact fun e => absurd e.symm h

/-- A REGION THAT LEAVES ITS ORDER OPEN. -/
theorem evDraw_sound {R : Type} (hO : OracleOk E O) (hmix : P.follows .mixedOrders = true) {a : Act} {w : World} {ι : Nat → Option Gh} {ro : Nat → Nat → Prop} (hnc : NoCond glob) (hg : Gam E w0 ro0 ⟨n, glob, objs, next⟩ a w ι ro) {k : ASt E → Option R} {rr : R} {Q : Exit → Act → World → Prop}
    (hk : ∀ S' a' w' ι' ro', NoCond S'.tmps → Gam E w0 ro0 S' a' w' ι' ro' → S'.n = n → k S' = some rr → Q .normal a' w') (h : evDraw O ops n glob objs next ops.toList [] 0 k = some rr) {id : Nat} : (Code.region id ops true).wp P Q a w := by
  obtain ⟨L, hL, hlen, hkL⟩ := evDraw_ents (ops := ops) ops.toList [] [] 0 (by simp) rfl rfl trivial h
  have hids : ∀ id o, look objs id = some o → id < next := hg.ids
  have done : ∀ (listed : Array Bool) (a : Act) (w : World) (ι : Nat → Option Gh) (ro : Nat → Nat → Prop), listed.size = ops.size → Inv E w0 ro0 ops n next glob objs L (fun j => listed.getD j false) a w ι ro → Region.ready .any ops listed = [] → Q .normal a w := by
    intro listed a w ι ro hsz hinv hready
    -- all is done
    have hall : ∀ j, j < ops.size → listed.getD j false = true := by
      intro j
      induction j using Nat.strongRecOn with
      | ind j ih =>
        intro hj
        cases hd : listed.getD j false with
        | true => rfl
        | false =>
          exfalso
          obtain ⟨e, he, hei⟩ := hL.has j (by omega)
          obtain ⟨pre, r, hsp, hent⟩ := hL.tail_ he
          obtain ⟨hi, o, res, ho, hpr, _⟩ := hent
          rw [hei] at ho
          have hmem : j ∈ Region.ready .any ops listed := (ready_iff listed j).2 ⟨hj, by
            simp only [Array.getD_eq_getD_getElem?] at hd ⊢
            rw [Array.getElem?_eq_getElem (by omega)] at hd ⊢
            simpa using hd, o, ho, fun ed hed hb => by
              have hlt : ed.on < j := by
                obtain ⟨x, hx, hxi⟩ := ((predsOf_inv hpr).2 ed hed hb).2
                obtain ⟨q1, q2, rfl⟩ := List.append_of_mem hx
                have hx' : EntOk O ops n glob objs next x q2 := by
                  refine EntsOk.at_ (pre := pre ++ e :: q1) ?_
                  rw [hsp] at hL
                  simpa using hL
                have h1 := hx'.1
                simp only [List.length_append, List.length_cons] at hi
                omega
              exact ih ed.on hlt (by omega)⟩
          rw [hready] at hmem
          cases hmem
    have hDall : ∀ e ∈ L, (fun j => listed.getD j false) e.i = allD e.i := fun e he => hall e.i (by have := hL.lt e he; omega)
    have hselO : selO (fun j => listed.getD j false) objs L = selO allD objs L := selO_congr (fun e he _ => hDall e he)
    have hobj := hinv.ob
    have hinj := hinv.inj
    rw [hselO] at hobj hinj
    refine hk ⟨n, unCond (selT allD L) ++ glob, selO allD objs L, next + ops.size⟩ a w ι ro (fun p hp => ?_) ⟨hinv.base, hinv.size, TmOk.clean (loc := selT allD L) (glob := glob) fun t x hl => ?_, hobj, hinj, fun id hid => ?_, fun id o hl => ?_⟩ rfl hkL
    · rcases List.mem_append.1 hp with hp | hp
      · exact noCond_unCond _ p hp
      · exact hnc p hp
    · rw [look_app] at hl
      cases hs : look (selT allD L) t with
      | some z =>
        rw [hs] at hl
        cases hl
        obtain ⟨g, hg1, _, hg3, hg4⟩ := look_selT hs
        rw [hg4]
        exact hinv.slots g hg1 (hDall g hg1) t hg3
      | none =>
        rw [hs] at hl
        exact hinv.gl t x hl fun e he hd => absurd hd (look_selT_none hs e he rfl)
    · cases hgh : ι id with
      | none => rfl
      | some gh =>
        exfalso
        have hid' : next + ops.size ≤ id := hid
        obtain ⟨e, he, _, h⟩ := hinv.fresh id (by omega) (by rw [hgh]; simp)
        have := hL.lt e he
        omega
    · have := selO_ids hL hids allD id o hl
      show id < next + ops.size
      omega
  have key : ∀ (fuel : Nat) (listed : Array Bool) (a : Act) (w : World) (ι : Nat → Option Gh) (ro : Nat → Nat → Prop), listed.size = ops.size → (listed.toList.count false ≤ fuel) → Inv E w0 ro0 ops n next glob objs L (fun j => listed.getD j false) a w ι ro → wpAny P .any ops Q fuel listed a w := by
    intro fuel
    induction fuel with
    | zero =>
      intro listed a w ι ro hsz hcount hinv
      have hr : Region.ready .any ops listed = [] := by
        rw [List.eq_nil_iff_forall_not_mem]
        intro i hi
        obtain ⟨h1, h2, _⟩ := (ready_iff listed i).1 hi
        have hmem : false ∈ listed.toList := by
          simp only [Array.getD_eq_getD_getElem?] at h2
          rw [Array.getElem?_eq_getElem (by omega)] at h2
          simp at h2
          rw [← h2]
          exact Array.mem_toList_iff.2 (Array.getElem_mem _)
        have := List.count_pos_iff.2 hmem
        omega
      exact ⟨hr, done listed a w ι ro hsz hinv hr⟩
    | succ fuel ih =>
      intro listed a w ι ro hsz hcount hinv
      refine ⟨fun hr => done listed a w ι ro hsz hinv hr, fun i hi => ?_⟩
      obtain ⟨h1, h2, o, ho, h3⟩ := (ready_iff listed i).1 hi
      obtain ⟨e, he, hei⟩ := hL.has i (by omega)
      subst hei
      have hDe : listed.getD e.i false = false := by
        simp only [Array.getD_eq_getD_getElem?] at h2 ⊢
        rw [Array.getElem?_eq_getElem (by omega)] at h2 ⊢
        simpa using h2
      have hst := inv_step (K := fun a' w' => wpAny P .any ops Q fuel (listed.setIfInBounds e.i true) a' w') (Q := Q) hO hL hlen hnc hids hinv he hDe ho h3 (D' := fun j => (listed.setIfInBounds e.i true).getD j false) (fun j => getD_set listed (by omega))
        (fun a' w' ι' ro' hinv' => ih _ a' w' ι' ro' (by simp [hsz]) ?_ hinv')
      · unfold wpOp
        rw [ho]
        show if Region.wanted o (yielded ops a.tmps) = true then _ else _
        split
        · rename_i hw; rw [if_pos hw] at hst; exact .inl hst
        · rename_i hw; rw [if_neg hw] at hst; exact hst
      · have hlt : e.i < listed.toList.length := by rw [Array.length_toList, hsz]; exact h1
        have hget : listed.toList[e.i] = false := by
          simp only [Array.getD_eq_getD_getElem?] at hDe
          rw [Array.getElem?_eq_getElem (by omega)] at hDe
          simpa using hDe
        have hc : (listed.toList.set e.i true).count false + 1 = listed.toList.count false := by
          rw [List.count_set hlt, hget]
          have : 0 < listed.toList.count false := List.count_pos_iff.2 (by rw [← hget]; exact List.getElem_mem _)
          have e1 : (if (false == false) = true then 1 else 0) = 1 := rfl
          have e2 : (if (true == false) = true then 1 else 0) = 0 := rfl
          rw [e1, e2]
          omega
        rw [Array.toList_setIfInBounds]
        omega
  refine wp_region_any hmix (key ops.size _ a _ ι ro (by simp) ?_ ?_)
  · simp
  · have hfalse : ∀ j, (Array.replicate ops.size false).getD j false = false := by
      intro j
      simp only [Array.getD_eq_getD_getElem?, Array.getElem?_replicate]
      split <;> rfl
    have hselO : selO (fun j => (Array.replicate ops.size false).getD j false) objs L = objs := by
      have : selO (fun j => (Array.replicate ops.size false).getD j false) objs (L ++ []) = selO (fun j => (Array.replicate ops.size false).getD j false) objs [] := selO_pre (fun e _ hD => by simp only [hfalse] at hD; cases hD)
      rw [List.append_nil] at this
      exact this
    have drew : ∀ (v : Value) (x : AV E), SRep E w ro ι a.tmps v x → SRep E { w with drawn := w.drawn + 1 } ro ι a.tmps v x := fun v x h => SRep.mono (w := w) (ι := ι) (ro := ro) (fun _ _ h => h) (fun _ _ _ => rfl) (fun _ _ h => h) h
    refine {
      base := ⟨⟨hg.base.below.os, hg.base.below.tape, hg.base.below.output, hg.base.below.size, hg.base.below.block⟩, hg.base.rolt, hg.base.ronew, hg.base.ilt, hg.base.defers, hg.base.keep⟩
      size := hg.size
      slots := fun e _ hD => by simp only [hfalse] at hD; cases hD
      gl := fun t x hl _ => by obtain ⟨v, hv, hs⟩ := hg.tmps t x hl; exact ⟨v, hv, drew v x hs⟩
      ob := fun id o hl => ?_
      inj := by rw [hselO]; exact hg.inj
      fresh := fun id hid hgh => absurd (hg.fresh id hid) hgh
      closed := fun e _ hD => by simp only [hfalse] at hD; cases hD }
    rw [hselO] at hl
    have := hg.objs id o hl
    cases o with
    | dead => trivial
    | box cs =>
      obtain ⟨gh, g, vs, ty, h1, h2, hb, h3, h4, h5, h6⟩ := this
      exact ⟨gh, g, vs, ty, h1, h2, hb, h3, h4, fun j v c hv hc => ⟨(h5 j v c hv hc).1, Rep.mono (w := w) (ι := ι) (ro := ro) (fun _ _ h => h) (fun _ _ _ => rfl) (fun _ _ h => h) (h5 j v c hv hc).2⟩, h6⟩
    | tail l => exact this
    | row t l =>
      obtain ⟨gh, xs, h1, h2, h3, h4, h5, h6, h7⟩ := this
      exact ⟨gh, xs, h1, h2, h3, h4, OwnT.frame (w := w) h5 fun _ _ => rfl, RowD.mono (w := w) (w' := { w with drawn := w.drawn + 1 }) (ro := ro) (fun _ _ h => h) (fun _ _ _ => rfl) h6, h7⟩
end
end Go.Proofs.YtfoflgciceckoaaGreatDoor.Mir
