/- The Mirror, part K: a region run in the order of its text. -/
import Derived.Test.YtfoflgciceckoaaGreatDoorMirJ
namespace Go.Proofs.YtfoflgciceckoaaGreatDoor.Mir
open Go Go.RowKit

section
variable {P : Program} {E : Env P} {w w' : World} {ro ro' : Nat → Nat → Prop} {ι ι' : Nat → Option Gh} {a : Act}

theorem inj_step {objs : List (Nat × AObj E)} {nid : Nat} {r : Res E} {val : Value} (hp : OpPost E w w' ι ι' ro ro' nid r val) (hinj : Inj E objs ι) (hupd : ∀ id o, r.upd = some (id, o) → ∃ o', look objs id = some o' ∧ o'.live = true)
    (hilt : ∀ id gh k, ι id = some gh → gh.blk = some k → k < w.heap.size) (hids : ∀ id o, look objs id = some o → o.live = true → id ≠ nid) (objs' : List (Nat × AObj E))
    (hl : ∀ id o, look objs' id = some o → (r.new = some o ∧ id = nid) ∨ r.upd = some (id, o) ∨ (look objs id = some o ∧ ∀ o', r.upd ≠ some (id, o'))) : Inj E objs' ι' := by
  -- what block an object of the elder list has
  have key : ∀ id id' o o' gh gh' k, (r.new = some o ∧ id = nid) → o.live = true → o'.live = true → (r.upd = some (id', o') ∨ (look objs id' = some o' ∧ ∀ o', r.upd ≠ some (id', o'))) →
      ι' id = some gh → ι' id' = some gh' → gh.blk = some k → gh'.blk = some k → False := by
    intro id id' o o' gh gh' k ⟨hnew, hid⟩ hlive hlive' hother hi hi' hk hk'
    subst hid
    obtain ⟨q, hq, hql⟩ : ∃ q, look objs id' = some q ∧ q.live = true := by
      rcases hother with h | ⟨h, _⟩
      · exact hupd id' o' h
      · exact ⟨o', h, hlive'⟩
    have hne := hids id' q hq hql
    rw [hp.iold id' hne] at hi'
    have hklt := hilt id' gh' k hi' hk'
    obtain ⟨_, h⟩ := hp.inew gh k hi hk
    rcases h with h | ⟨i0, ob, gh0, hu, hdead, hi0, hk0⟩
    · omega
    · obtain ⟨q0, hq0, hql0⟩ := hupd i0 ob hu
      have e := hinj id' i0 q q0 gh' gh0 k hq hq0 hql hql0 hi' hi0 hk' hk0
      subst e
      rcases hother with h | ⟨_, h⟩
      · rw [hu] at h; cases h; rw [hdead] at hlive'; cases hlive'
      · exact h ob hu
  intro id id' o o' gh gh' k h1 h2 l1 l2 i1 i2 b1 b2
  have c1 := hl id o h1
  have c2 := hl id' o' h2
  rcases c1 with n1 | c1
  · rcases c2 with n2 | c2
    · rw [n1.2, n2.2]
    · exact (key id id' o o' gh gh' k n1 l1 l2 c2 i1 i2 b1 b2).elim
  · rcases c2 with n2 | c2
    · exact (key id' id o' o gh' gh k n2 l2 l1 c1 i2 i1 b2 b1).elim
    · obtain ⟨q1, hq1, hl1⟩ : ∃ q, look objs id = some q ∧ q.live = true := by
        rcases c1 with h | ⟨h, _⟩
        · exact hupd id o h
        · exact ⟨o, h, l1⟩
      obtain ⟨q2, hq2, hl2⟩ : ∃ q, look objs id' = some q ∧ q.live = true := by
        rcases c2 with h | ⟨h, _⟩
        · exact hupd id' o' h
        · exact ⟨o', h, l2⟩
      rw [hp.iold id (hids id q1 hq1 hl1)] at i1
      rw [hp.iold id' (hids id' q2 hq2 hl2)] at i2
      exact hinj id id' q1 q2 gh gh' k hq1 hq2 hl1 hl2 i1 i2 b1 b2

variable {w0 : Start} {ro0 : Nat → Nat → Prop} {n next : Nat} {loc glob : List (Nat × AV E)} {objs : List (Nat × AObj E)}

theorem OpPost.ext {nid : Nat} {r : Res E} {val : Value} (hp : OpPost E w w' ι ι' ro ro' nid r val) (hfresh : ι nid = none) : ∀ id gh, ι id = some gh → ι' id = some gh := by
  intro i gh hi
  rw [hp.iold i (fun e => by subst e; rw [hfresh] at hi; cases hi)]
  exact hi

theorem gam_step (hg : Gam E w0 ro0 ⟨n, loc ++ glob, objs, next⟩ a w ι ro) (hnc : NoCond glob) {d : Option Nat} {r : Res E} {val : Value} (hd : dstOk n d ((0, r.v) :: loc) = true)
    (hupd : ∀ id o, r.upd = some (id, o) → ∃ o', look objs id = some o' ∧ o'.live = true) (hp : OpPost E w w' ι ι' ro ro' next { r with v := .any } val) (hslot : SlotOk E w' ro' ι' a val r.v) :
    Gam E w0 ro0 ⟨n, putL d r.v loc ++ glob, putO objs next r, next + 1⟩ (a.put d val) w' ι' ro' := by
  have hfresh := hg.fresh next (Nat.le_refl _)
  have hilt : ∀ id gh k, ι id = some gh → gh.blk = some k → k < w.heap.size := fun id gh k h1 h2 => (hg.base.ilt id gh k h1 h2).2
  have hids : ∀ id o, look objs id = some o → id < next := hg.ids
  exact {
    base := hg.base.step hp hfresh d
    size := put_size.trans hg.size
    tmps := TmOk.step hg.size hg.tmps hnc hd hp.mono hp.cell (hp.ext hfresh) hslot
    objs := fun id o hl => by
      rcases look_putO hl with ⟨h1, h2⟩ | ⟨h1, _⟩ | ⟨h1, _, h3⟩
      · subst h2; exact hp.new o h1
      · exact hp.upd id o h1
      · exact ObjOk.step hp hfresh hg.inj hupd hilt h1 (fun e => by have := hids id o h1; omega) h3 (hg.objs id o h1)
    inj := inj_step hp hg.inj hupd hilt (fun id o h _ e => by have := hids id o h; omega) _ (fun id o hl => by
      rcases look_putO hl with h | ⟨h1, _⟩ | ⟨h1, _, h3⟩
      · exact .inl h
      · exact .inr (.inl h1)
      · exact .inr (.inr ⟨h1, h3⟩))
    fresh := fun id h => by
      have h : next + 1 ≤ id := h
      rw [hp.iold id (by omega)]
      exact hg.fresh id (by show next ≤ id; omega)
    ids := fun id o hl => by
      show id < next + 1
      rcases look_putO hl with ⟨_, h2⟩ | ⟨h1, _⟩ | ⟨h1, _, _⟩
      · omega
      · obtain ⟨o', h, _⟩ := hupd id o h1
        have := hids id o' h; omega
      · have := hids id o h1; omega }

theorem inlOf_inv {I : Inl E} {S : ASt E} {ro : Nat → Nat → Prop} {ι : Nat → Option Gh} (c : Ctx E S [] a w ι ro) {o : Oper} {f : FuncId} {args : List (AV E)} (h : inlOf I S o = some (f, args)) :
    o.guard = none ∧ ∃ cal as ts, o.op = .call { callee := .value cal, args := as, argTypes := ts } ∧ a.eval cal = .func (.func f) #[] #[] ∧ args = argsA S.tmps [] as := by
  unfold inlOf at h
  split at h
  · rename_i cc hg hop
    obtain ⟨callee, as, ts⟩ := cc
    split at h
    · rename_i x hx
      have hx : callee = .value x := hx
      subst hx
      split at h
      · rename_i f' hf
        have hfo : a.eval x = .func (.func f') #[] #[] := by
          unfold calleeA at hf
          split at hf
          · cases hf; rfl
          · unfold funcOf at hf
            split at hf
            · rename_i heq
              cases hf
              have hx := c.get x
              rw [heq] at hx
              exact hx.raw_inv
            · cases hf
        cases hh : I.has f' with
        | false => rw [hh] at h; cases h
        | true =>
          rw [hh] at h
          cases h
          exact ⟨hg, x, as, ts, hop, hfo, rfl⟩
      · cases h
    · cases h
  · cases h

theorem gam_in (hg : Gam E w0 ro0 ⟨n, loc ++ glob, objs, next⟩ a w ι ro) (hnc : NoCond glob) {d : Option Nat} {x : AV E} {val : Value} (hd : dstOk n d ((0, x) :: loc) = true) (hx : isCond x = false) (hv : Rep E w' ro' ι' val x)
    {objs' : List (Nat × AObj E)} {next' : Nat} (hb : Base w0 ro0 a w' ι' ro') (ho : ∀ (id : Nat) o, look objs' id = some o → ObjOk E w' ro' ι' id o) (hi : Inj E objs' ι') (hf : ∀ id, next' ≤ id → ι' id = none) (hids : ∀ id o, look objs' id = some o → id < next')
    (hkeep : ∀ k o, ro k o → ro' k o ∧ w'.cell? ⟨k, o, none⟩ = w.cell? ⟨k, o, none⟩) (hext : ∀ id gh, ι id = some gh → ι' id = some gh) :
    Gam E w0 ro0 ⟨n, putL d x loc ++ glob, objs', next'⟩ (a.put d val) w' ι' ro' where
  base := ⟨hb.below, hb.rolt, hb.ronew, hb.ilt, (by have := hb.defers; cases d <;> exact this), hb.keep⟩
  size := put_size.trans hg.size
  tmps := TmOk.step hg.size hg.tmps hnc hd (fun k o h => (hkeep k o h).1) (fun k o h => (hkeep k o h).2) hext fun tm _ => by
    cases x <;> first | exact hv | cases hx
  objs := ho
  inj := hi
  fresh := hf
  ids := hids

theorem evSeq_sound {R : Type} {O : Oracle E} (hO : OracleOk E O) {ops : Array Oper} (hnc : NoCond glob) {k : ASt E → Option R} {rr : R} {Q : Exit → Act → World → Prop}
    (hk : ∀ S' a' w' ι' ro', NoCond S'.tmps → Gam E w0 ro0 S' a' w' ι' ro' → S'.n = n → k S' = some rr → Q .normal a' w') :
    ∀ (l : List Oper) (loc : List (Nat × AV E)) (objs : List (Nat × AObj E)) (next : Nat) (a : Act) (w : World) (ι : Nat → Option Gh) (ro : Nat → Nat → Prop), Gam E w0 ro0 ⟨n, loc ++ glob, objs, next⟩ a w ι ro → evSeq O ops n glob l loc objs next k = some rr →
      wpList P ops Q l a w
  | [], loc, objs, next, a, w, ι, ro, hg, h => by
    unfold evSeq at h
    refine wpList_nil (hk ⟨n, unCond loc ++ glob, objs, next⟩ a w ι ro (fun p hp => ?_) ⟨hg.base, hg.size, hg.tmps.clean, hg.objs, hg.inj, hg.fresh, hg.ids⟩ rfl h)
    rcases List.mem_append.1 hp with hp | hp
    · exact noCond_unCond loc p hp
    · exact hnc p hp
  | o :: rest, loc, objs, next, a, w, ι, ro, hg, h => by
    unfold evSeq at h
    split at h
    · rename_i f args hin
      have c : Ctx E ⟨n, loc ++ glob, objs, next⟩ [] a w ι ro := ⟨hg.tmps, fun j b hb => by simp [hasAsm] at hb, hg.base.rolt, hg.objs, hg.fresh _ (Nat.le_refl _)⟩
      obtain ⟨hg0, cal, as, ts, hop, hfo, rfl⟩ := inlOf_inv c hin
      obtain ⟨hfn, hcalls⟩ := hO.2.2.2.2 _ _ _ _ _ _ h
      refine wpList_step fun K hK => ?_
      rw [if_pos (show Region.wanted o (yielded ops a.tmps) = true by simp [Region.wanted, hg0])]
      unfold Oper.wp
      rw [enter_of hop hfo hfn]
      refine (hcalls w0 ro0 a w ι ro _ hg.base hg.objs hg.inj hg.fresh hg.ids (by simp [argsA]) fun i v x hv hx => ?_).mono fun e w' he => ?_
      · unfold argsA at hx
        rw [List.getElem?_map] at hv hx
        cases hi' : as.toList[i]? with
        | none => rw [hi'] at hv; cases hv
        | some y =>
          rw [hi'] at hv hx
          cases hv; cases hx
          exact c.get y
      · obtain ⟨v, x, objs', next', ι', ro', rfl, hk', hv, hb, ho, hi, hf, hids, hkeep, hext⟩ := he
        split at hk'
        · rename_i hd
          simp only [Bool.and_eq_true, Bool.not_eq_true'] at hd
          exact hK _ _ (evSeq_sound hO hnc hk rest _ _ _ _ _ _ _ (gam_in hg hnc hd.1 hd.2 hv hb ho hi hf hids hkeep hext) hk')
        · cases hk'
    split at h
    · rename_i r hr
      split at h
      · rename_i hd
        cases hok : r.ok with
        | false => rw [hok] at h; cases h
        | true =>
          rw [hok] at h
          simp only [cond_true] at h
          refine wpList_step fun K hK => ?_
          refine evG_sound (S := ⟨n, loc ++ glob, objs, next⟩) hg.base.rolt hg.tmps hg.objs (hg.fresh _ (Nat.le_refl _)) hO hr hok fun val w' ι' ro' hp hslot => ?_
          refine hK _ _ (evSeq_sound hO hnc hk rest _ _ _ _ _ _ _ (gam_step hg hnc hd (fun id o hu => evG_upd hr hu) hp hslot) h)
      · cases h
    · cases h
end
end Go.Proofs.YtfoflgciceckoaaGreatDoor.Mir
