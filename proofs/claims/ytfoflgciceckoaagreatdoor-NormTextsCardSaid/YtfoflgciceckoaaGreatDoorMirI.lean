/- The Mirror, part I: append and calls done; every operation that the interpreter runs is done by the model. -/
import Derived.Test.YtfoflgciceckoaaGreatDoorMirH
namespace Go.Proofs.YtfoflgciceckoaaGreatDoor.Mir
open Go Go.RowKit

section
variable {P : Program} {E : Env P}

def ArgsRep (E : Env P) (w : World) (ro : Nat → Nat → Prop) : List Value → List (TV E) → Prop
  | [], [] => True
  | v :: vs, ⟨t, x⟩ :: r => TRep E w ro v t x ∧ ArgsRep E w ro vs r
  | _, _ => False

def RetRep (E : Env P) (w : World) (ro : Nat → Nat → Prop) (v : Value) : List (TV E) → Prop
  | [⟨t, x⟩] => TRep E w ro v t x
  | rs => ∃ vs : List Value, v = .tuple vs.toArray ∧ ArgsRep E w ro vs rs

/-- What a call of function f with these typed arguments hands back: new memory alone is made. -/
def CallsOk (E : Env P) (f : FuncId) (args res : List (TV E)) : Prop :=
  ∀ (w : World) (ro : Nat → Nat → Prop) (vals : List Value), ArgsRep E w ro vals args → (∀ k o, ro k o → k < w.heap.size) →
    Calls P f vals.toArray w fun e w' => ∃ v, e = .returned v ∧ Below w.heap.size w w' ∧ RetRep E w' (fun k o => ro k o ∨ (w.heap.size ≤ k ∧ k < w'.heap.size)) v res

def FnOk (E : Env P) (f : FuncId) (F : List (TV E) → Option (Bool × List (TV E))) : Prop :=
  (∃ fn, P.funcs[f]? = some fn ∧ (fn.name == "runtime.NumGoroutine") = false ∧ fn.body.isNone = false) ∧ ∀ args res, F args = some (true, res) → CallsOk E f args res

/-- What a call hands back that makes a row for the caller alone. -/
def CallsFresh (E : Env P) (f : FuncId) (args : List (TV E)) (t : E.Ty) (l : List (E.Den t)) : Prop :=
  ∀ (w : World) (ro : Nat → Nat → Prop) (vals : List Value), ArgsRep E w ro vals args → (∀ k o, ro k o → k < w.heap.size) →
    Calls P f vals.toArray w fun e w' => ∃ (gh : Gh) (xs : List Value), e = .returned gh.v ∧ Below w.heap.size w w' ∧ gh.n = l.length ∧ gh.e = E.tid t ∧ gh.sz = E.size t ∧ OwnT w' gh xs ∧ RowD E w' ro t xs l ∧ ∀ g, gh.blk = some g → w.heap.size ≤ g

/-- What a call does that is handed, first, a row of the caller's own: it lies there anew, or is handed back. -/
def CallsMut (E : Env P) (f : FuncId) (t : E.Ty) (l : List (E.Den t)) (rest : List (TV E)) (back : Bool) (l' : List (E.Den t)) : Prop :=
  ∀ (w : World) (ro : Nat → Nat → Prop) (gh : Gh) (xs : List Value) (vals : List Value), gh.n = l.length → gh.e = E.tid t → gh.sz = E.size t → OwnT w gh xs → RowD E w ro t xs l → (∀ g, gh.blk = some g → ∀ o, ¬ ro g o) → ArgsRep E w ro vals rest → (∀ k o, ro k o → k < w.heap.size) →
    Calls P f (gh.v :: vals).toArray w fun e w' => ∃ (val : Value) (gh' : Gh) (xs' : List Value), e = .returned val ∧ w.grownBy w' gh.blk ∧ gh'.n = l'.length ∧ gh'.e = E.tid t ∧ gh'.sz = E.size t ∧ OwnT w' gh' xs' ∧ RowD E w' (fun k o => ro k o ∨ (gh'.blk ≠ some k ∧ (gh.blk = some k ∨ w.heap.size ≤ k ∧ k < w'.heap.size))) t xs' l' ∧
      (∀ g, gh'.blk = some g → gh.blk = some g ∨ w.heap.size ≤ g) ∧ (back = true → val = gh'.v) ∧ (back = false → gh' = gh)

/-- slices.Grow of nil: an empty row, made anew. -/
def CallsGrow (E : Env P) (f : FuncId) (t : E.Ty) : Prop :=
  ∀ (w : World) (n : Int), 0 ≤ n → n * (E.bytes t : Int) ≤ 140737488355328 →
    Calls P f #[.slice none 0 0, .int .i64 n] w fun e w' => ∃ (gh : Gh), e = .returned gh.v ∧ Below w.heap.size w w' ∧ gh.n = 0 ∧ gh.e = E.tid t ∧ gh.sz = E.size t ∧ OwnT w' gh [] ∧ ∀ g, gh.blk = some g → w.heap.size ≤ g

/-- What the walk of a function upon its caller's objects says of the call. -/
def InlOk (E : Env P) (I : Inl E) : Prop := ∀ {R : Type} (f : FuncId) (args : List (AV E)) (objs : List (Nat × AObj E)) (next : Nat) (k : AV E → List (Nat × AObj E) → Nat → Option R) (rr : R), I.run f args objs next k = some rr →
  (∃ fn, P.funcs[f]? = some fn ∧ (fn.name == "runtime.NumGoroutine") = false ∧ fn.body.isNone = false) ∧
  ∀ (w0 : Start) (ro0 : Nat → Nat → Prop) (a : Act) (w : World) (ι : Nat → Option Gh) (ro : Nat → Nat → Prop) (vals : List Value), Base w0 ro0 a w ι ro → (∀ (id : Nat) o, look objs id = some o → ObjOk E w ro ι id o) → Inj E objs ι → (∀ id, next ≤ id → ι id = none) →
    (∀ id o, look objs id = some o → id < next) → vals.length = args.length → (∀ (i : Nat) v x, vals[i]? = some v → args[i]? = some x → Rep E w ro ι v x) →
    Calls P f vals.toArray w fun e w' => ∃ (v : Value) (x : AV E) (objs' : List (Nat × AObj E)) (next' : Nat) (ι' : Nat → Option Gh) (ro' : Nat → Nat → Prop), e = .returned v ∧ k x objs' next' = some rr ∧ Rep E w' ro' ι' v x ∧ Base w0 ro0 a w' ι' ro' ∧
      (∀ (id : Nat) o, look objs' id = some o → ObjOk E w' ro' ι' id o) ∧ Inj E objs' ι' ∧ (∀ id, next' ≤ id → ι' id = none) ∧ (∀ id o, look objs' id = some o → id < next') ∧
      (∀ k o, ro k o → ro' k o ∧ w'.cell? ⟨k, o, none⟩ = w.cell? ⟨k, o, none⟩) ∧ ∀ id gh, ι id = some gh → ι' id = some gh

def OracleOk (E : Env P) (O : Oracle E) : Prop :=
  (∀ f args res, O.call f args = some (true, res) → (∃ fn, P.funcs[f]? = some fn ∧ (fn.name == "runtime.NumGoroutine") = false ∧ fn.body.isNone = false) ∧ CallsOk E f args res) ∧
  (∀ f args t l, O.fresh f args = some (true, ⟨t, l⟩) → (∃ fn, P.funcs[f]? = some fn ∧ (fn.name == "runtime.NumGoroutine") = false ∧ fn.body.isNone = false) ∧ CallsFresh E f args t l) ∧
  (∀ f t l rest back l', O.rowf f t l rest = some (true, back, l') → (∃ fn, P.funcs[f]? = some fn ∧ (fn.name == "runtime.NumGoroutine") = false ∧ fn.body.isNone = false) ∧ CallsMut E f t l rest back l') ∧
  (∀ f t, O.grow f = some t → (∃ fn, P.funcs[f]? = some fn ∧ (fn.name == "runtime.NumGoroutine") = false ∧ fn.body.isNone = false) ∧ CallsGrow E f t) ∧ InlOk E O.inl
end

section
variable {P : Program} {E : Env P} {w : World} {ro : Nat → Nat → Prop} {ι : Nat → Option Gh} {S : ASt E} {asm : List (Nat × Bool)} {a : Act}

theorem castL_eq {t t' : E.Ty} {l : List (E.Den t)} {l' : List (E.Den t')} (h : castL t t' l = some l') : ∃ e : t = t', l' = e ▸ l := by
  unfold castL at h
  cases hd : E.dec t t' with
  | isFalse hn => rw [hd] at h; cases h
  | isTrue he => rw [hd] at h; cases h; exact ⟨he, rfl⟩

theorem done_append_gen (c : Ctx E S asm a w ι ro) {o : Oper} {T T' : TypeId} {s x : Operand} (ho : o.op = .call { callee := .builtin .append, args := #[s, x], argTypes := #[T, T'] }) {r : Res E} {Y : AV E}
    (hsrc : ∀ t l2, P.underlying T = some (.slice (E.tid t)) → sliceA (E.tid t) Y = some ⟨t, l2⟩ → ∃ news, Src P (E.size t) T' (a.eval x) l2.length news w ∧ RowD E w ro t news l2)
    (h : evAppend S.objs S.next T (getA S.tmps asm s) Y = some r) (hok : r.ok = true) : OpDone E o a w ι ro S.next r := by
  have hs := c.get s
  generalize hvs : a.eval s = vs at hs
  generalize hvx : a.eval x = vx at hsrc
  generalize getA S.tmps asm s = X at *
  have fin : ∀ {v' : Value} {w' : World}, (Builtin.append_ #[T, T'] o.type #[vs, vx]).run P w = .ok v' w' → (execOp a.eval o).run P w = .ok (.value v') w' := by
    intro v' w' hr
    simp only [execOp, ho, resolve, invoke, builtin, Sem.run_bind, Sem.run_pure, Result.andThen_ok, List.map_toArray, List.map_cons, List.map_nil, hvs, hvx, hr]
  unfold evAppend at h
  split at h
  · rename_i e he
    have hu := elemT_inv he
    split at h
    · rename_i t l2 hsl
      split at h
      · rename_i ht
        have ht := Nat.eq_of_beq_eq_true ht
        subst ht
        obtain ⟨news, hs2, hnd⟩ := hsrc t l2 hu hsl
        split at h
        · -- nil
          cases h
          have e1 := hs.raw_inv
          subst e1
          have hok' : l2.length * E.bytes t ≤ maxBytes := of_decide_eq_true hok
          obtain ⟨v', w', ι', ro', hrun, hp⟩ := append_post c t T T' o.type hu (.slice none 0 0) [] l2 [] vx news none none (.inl ⟨World.ownsRow_nil w 0 (E.tid t) (E.size t), rfl⟩) (fun i x j c h => by simp at h) (fun g hg => by cases hg) hs2 hnd (by rw [List.length_nil, Nat.zero_add]; exact hok') (.inl ⟨rfl, rfl⟩)
          simp only [hok', decide_true]
          exact .inl ⟨v', w', ι', ro', fin hrun, hp⟩
        · -- an owned row
          rename_i t' l1 id
          cases hc : castL t t' l2 with
          | none => rw [hc] at h; cases h
          | some l2' =>
            cases hob : look S.objs id with
            | none => rw [hc, hob] at h; cases h
            | some ob =>
              rw [hc, hob] at h
              cases ob with
              | dead => cases h
              | box cs => cases h
              | row _ _ => cases h
              | tail live =>
                cases live with
                | false => cases h
                | true =>
                  cases h
                  obtain ⟨ee, hl⟩ := castL_eq hc
                  subst ee
                  obtain rfl : l2 = l2' := hl.symm
                  have hok' : (l1.length + l2.length) * E.bytes t ≤ maxBytes := of_decide_eq_true hok
                  cases hs with
                  | grow gh _ _ _ hi hn hge hgs hd1 =>
                    obtain ⟨gh', xs, hi', hown, hnro⟩ := c.objs id _ hob rfl
                    rw [hi] at hi'
                    cases hi'
                    unfold OwnT at hown
                    rw [hn, hge, hgs] at hown
                    rw [hn, hgs] at hnro
                    obtain ⟨v', w', ι', ro', hrun, hp⟩ := append_post c t T T' o.type hu gh.v l1 l2 xs vx news (some (id, .dead)) gh.blk hown (rowD_of_slice hown hd1) (fun g hg => hnro g hg) hs2 hnd hok' (.inr ⟨id, gh, rfl, hi, rfl⟩)
                    simp only [hok', decide_true]
                    exact .inl ⟨v', w', ι', ro', fin hrun, hp⟩
        · -- a row of its own
          rename_i t0 n0 id
          split at h
          · rename_i t' l1 hob
            cases hc : castL t t' l2 with
            | none => rw [hc] at h; cases h
            | some l2' =>
              rw [hc] at h
              cases h
              obtain ⟨ee, hl⟩ := castL_eq hc
              subst ee
              obtain rfl : l2 = l2' := hl.symm
              have hok' : (l1.length + l2.length) * E.bytes t ≤ maxBytes := of_decide_eq_true hok
              cases hs with
              | row gh _ _ ad cap hi hge0 hgs0 hgv had =>
                obtain ⟨gh', xs, hi', hn, hge, hgs, hown, hrow, hnro⟩ := c.objs id _ hob
                rw [hi] at hi'
                cases hi'
                unfold OwnT at hown
                rw [hn, hge, hgs] at hown
                obtain ⟨v', w', ι', hrun, hp⟩ := append_post_row c t T T' o.type hu gh.v l1 l2 xs vx news (some (id, .dead)) gh.blk hown hrow (fun g hg o => hnro g hg o) hs2 hnd hok' (.inr ⟨id, gh, rfl, hi, rfl⟩)
                simp only [hok', decide_true]
                exact .inl ⟨v', w', ι', ro, fin hrun, hp⟩
          · cases h
        · cases h
      · cases h
    · cases h
  · cases h

theorem done_append (c : Ctx E S asm a w ι ro) {o : Oper} {T : TypeId} {s x : Operand} (ho : o.op = .call { callee := .builtin .append, args := #[s, x], argTypes := #[T, T] }) {r : Res E}
    (h : evAppend S.objs S.next T (getA S.tmps asm s) (getA S.tmps asm x) = some r) (hok : r.ok = true) : OpDone E o a w ι ro S.next r :=
  done_append_gen c ho (fun t l2 hT hsl => (sliceA_rep (c.get x) hsl).src hT) h hok

theorem done_appendS (c : Ctx E S asm a w ι ro) {o : Oper} {T T' : TypeId} {s x : Operand} (ho : o.op = .call { callee := .builtin .append, args := #[s, x], argTypes := #[T, T'] }) {r : Res E}
    (h : evAppendS S.objs S.next T T' (getA S.tmps asm s) (getA S.tmps asm x) = some r) (hok : r.ok = true) : OpDone E o a w ι ro S.next r := by
  have hx := c.get x
  unfold evAppendS at h
  split at h
  · rename_i e hT' he
    split at h
    · rename_i l hY
      split at h
      · rename_i t ht
        split at h
        · rename_i g hg
          rw [hY] at hx
          refine done_append_gen c ho (fun t' l2 hT hsl => ?_) h hok
          cases hsl
          have hv : a.eval x = .string ⟨l.toArray⟩ := by
            generalize a.eval x = vx at hx
            cases hx with
            | d _ _ hd => cases hd; rfl
          rw [hv]
          exact str_src g (E.byteU_ok _ g hg) (isStrT_inv hT') l
        · cases h
      · cases h
    · cases h
  · cases h

theorem foldArgs_rep : ∀ (Ts : List TypeId) (vs : List Value) (as : List (AV E)) (xs : List (TV E)), vs.length = as.length → (∀ (i : Nat) v x, vs[i]? = some v → as[i]? = some x → Rep E w ro ι v x) → foldArgs Ts as = some xs → ArgsRep E w ro vs xs
  | [], [], [], xs, _, _, h => by cases h; trivial
  | T :: Ts, v :: vs, x :: as, xs, hl, hr, h => by
    unfold foldArgs at h
    split at h
    · rename_i t ht
      split at h
      · rename_i y hy
        split at h
        · rename_i r hr'
          cases h
          exact ⟨foldA_rep (hr 0 v x rfl rfl) hy, foldArgs_rep Ts vs as r (by simpa using hl) (fun i v x hv hx => hr (i + 1) v x (by simpa using hv) (by simpa using hx)) hr'⟩
        · cases h
      · cases h
    · cases h
  | [], v :: vs, x :: as, xs, _, _, h => by cases h
  | T :: Ts, [], [], xs, _, _, h => by cases h
  | [], [], _ :: _, _, hl, _, _ => by simp at hl
  | [], _ :: _, [], _, hl, _, _ => by simp at hl
  | _ :: _, [], _ :: _, _, hl, _, _ => by simp at hl
  | _ :: _, _ :: _, [], _, hl, _, _ => by simp at hl

theorem ArgsRep.at_ : ∀ (vs : List Value) (rs : List (TV E)), ArgsRep E w ro vs rs → vs.length = rs.length ∧ ∀ (i : Nat) v x, vs[i]? = some v → rs[i]? = some x → TRep E w ro v x.1 x.2
  | [], [], _ => ⟨rfl, fun i v x h => by simp at h⟩
  | v :: vs, r :: rs, h => by
    obtain ⟨t, y⟩ := r
    obtain ⟨h1, h2⟩ := h
    obtain ⟨g1, g2⟩ := ArgsRep.at_ vs rs h2
    refine ⟨by simp [g1], fun i u x hu hx => ?_⟩
    cases i with
    | zero => simp at hu hx; subst hu; subst hx; exact h1
    | succ i => exact g2 i u x (by simpa using hu) (by simpa using hx)
  | [], _ :: _, h => h.elim
  | _ :: _, [], h => h.elim

theorem retA_rep {v : Value} {res : List (TV E)} (h : RetRep E w ro v res) : Rep E w ro ι v (retA res) := by
  unfold RetRep at h
  split at h
  · exact expandA_rep h
  · rename_i hne
    obtain ⟨vs, rfl, h⟩ := h
    obtain ⟨h1, h2⟩ := ArgsRep.at_ vs res h
    have e : retA res = .tup (res.map fun r => expandA r.1 r.2) := by
      unfold retA
      split
      · rename_i t x; exact absurd rfl (hne t x)
      · rfl
    rw [e]
    refine .tup _ _ (by simp [h1]) (fun j u x hu hx => ?_)
    rw [List.getElem?_map] at hx
    cases hr : res[j]? with
    | none => rw [hr] at hx; cases hx
    | some r =>
      rw [hr] at hx
      cases hx
      exact expandA_rep (h2 j u r (by simpa using hu) hr)

theorem OwnT.lt {gh : Gh} {xs : List Value} (h : OwnT w gh xs) {g : Nat} (hg : gh.blk = some g) : g < w.heap.size := by
  rcases h with ⟨h, hb⟩ | ⟨_, _, hb, _⟩
  · exact (h.lt g (hb ▸ hg)).2
  · rw [hb] at hg; cases hg

theorem enter_of {o : Oper} {f : FuncId} {cal : Operand} {as : Array Operand} {ts : Array TypeId} (ho : o.op = .call { callee := .value cal, args := as, argTypes := ts }) (hfo : a.eval cal = .func (.func f) #[] #[])
    (h : ∃ fn, P.funcs[f]? = some fn ∧ (fn.name == "runtime.NumGoroutine") = false ∧ fn.body.isNone = false) : (execOp a.eval o).run P w = .ok (.enter f (as.toList.map a.eval).toArray) w := by
  obtain ⟨fn, hfn, hname, hbody⟩ := h
  have e1 : (as.map a.eval) = (as.toList.map a.eval).toArray := by
    apply Array.ext'
    simp
  simp only [execOp, ho, resolve, hfo, Deferred.ofValue, Sem.run_bind, Sem.run_pure, Result.andThen_ok, invoke, callFunc, e1]
  have hn : ¬ fn.name = "runtime.NumGoroutine" := by intro e; rw [e] at hname; simp at hname
  have hb : ¬ fn.body = none := by intro e; rw [e] at hbody; simp at hbody
  simp [hfn, hn, hb, program, Sem.run]

theorem done_call (c : Ctx E S asm a w ι ro) {O : Oracle E} (hO : OracleOk E O) {o : Oper} {f : FuncId} {cal : Operand} {as : Array Operand} {ts : Array TypeId} (ho : o.op = .call { callee := .value cal, args := as, argTypes := ts }) (hfo : a.eval cal = .func (.func f) #[] #[])
    {r : Res E} (h : evCall O S.next f ts.toList (argsA S.tmps asm as) = some r) (hok : r.ok = true) : OpDone E o a w ι ro S.next r := by
  have args : ∀ xs, foldArgs ts.toList (argsA S.tmps asm as) = some xs → ArgsRep E w ro (as.toList.map a.eval) xs := fun xs hxs =>
    foldArgs_rep (ι := ι) ts.toList _ _ xs (by simp [argsA]) (fun i v x hv hx => by
        unfold argsA at hx
        rw [List.getElem?_map] at hv hx
        cases hi : as.toList[i]? with
        | none => rw [hi] at hv; cases hv
        | some y =>
          rw [hi] at hv hx
          cases hv; cases hx
          exact c.get y) hxs
  have enter := enter_of (a := a) (w := w) (P := P) ho hfo
  unfold evCall at h
  split at h
  · rename_i xs hxs
    cases hfr : O.isFresh f with
    | true =>
      rw [hfr] at h
      simp only [cond_true] at h
      split at h
      · rename_i ok t l hres
        cases h
        have hok : ok = true := hok
        subst hok
        obtain ⟨hfn, hcalls⟩ := hO.2.1 f xs t l hres
        refine .inr (.inr ⟨f, _, enter hfn, (hcalls w ro _ (args xs hxs) c.rolt).mono fun e w' he => ?_⟩)
        obtain ⟨gh, ys, rfl, hb, hn, hge, hgs, hown, hrow, hblk⟩ := he
        have hcell : ∀ k o, ro k o → w'.cell? ⟨k, o, none⟩ = w.cell? ⟨k, o, none⟩ := fun k o h => hb.cell (p := ⟨k, o, none⟩) (c.rolt k o h)
        obtain ⟨ad, cap, hgv, had⟩ := hown.shape
        exact ⟨gh.v, setGh ι S.next gh, ro, rfl, {
          os := hb.os
          tape := hb.tape
          output := hb.output
          size := hb.size
          frame := fun k hk _ => hb.block k hk
          cell := hcell
          mono := fun _ _ h => h
          rolt := fun k o h => Nat.lt_of_lt_of_le (c.rolt k o h) hb.size
          fresh := fun k o h => .inl h
          iold := fun id h => if_neg h
          inew := fun gh' k h hk => by
            simp [setGh] at h
            subst h
            exact ⟨hown.lt hk, .inl (hblk k hk)⟩
          nonew := fun h => by cases h
          upd := fun id o h => by cases h
          new := fun o h => by
            cases h
            exact ⟨gh, ys, if_pos rfl, hn, hge, hgs, hown, hrow, fun g hg o hr => by have := c.rolt g o hr; have := hblk g hg; omega⟩
          val := by rw [← hn]; exact .row gh t S.next ad cap (if_pos rfl) hge hgs hgv had }⟩
      · cases h
    | false =>
      rw [hfr] at h
      simp only [cond_false] at h
      split at h
      · rename_i ok res hres
        cases h
        have hok : ok = true := hok
        subst hok
        obtain ⟨hfn, hcalls⟩ := hO.1 f xs res hres
        refine .inr (.inr ⟨f, _, enter hfn, (hcalls w ro _ (args xs hxs) c.rolt).mono fun e w' he => ?_⟩)
        obtain ⟨v, rfl, hb, hr⟩ := he
        have hcell : ∀ k o, ro k o → w'.cell? ⟨k, o, none⟩ = w.cell? ⟨k, o, none⟩ := fun k o h => hb.cell (p := ⟨k, o, none⟩) (c.rolt k o h)
        refine ⟨v, ι, _, rfl, {
          os := hb.os
          tape := hb.tape
          output := hb.output
          size := hb.size
          frame := fun k hk _ => hb.block k hk
          cell := hcell
          mono := fun _ _ h => .inl h
          rolt := fun k o h => by
            rcases h with h | ⟨_, h⟩
            · exact Nat.lt_of_lt_of_le (c.rolt k o h) hb.size
            · exact h
          fresh := fun k o h => by
            rcases h with h | ⟨h, _⟩
            · exact .inl h
            · exact .inr (.inl h)
          iold := fun _ _ => rfl
          inew := fun gh k h => by rw [c.fresh] at h; cases h
          nonew := fun _ => rfl
          upd := fun id o h => by cases h
          new := fun o h => by cases h
          val := retA_rep hr }⟩
      · cases h
  · cases h

theorem rowArg_look {objs : List (Nat × AObj E)} : ∀ {args : List (AV E)} {id : Nat} {t : E.Ty} {l : List (E.Den t)}, rowArg objs args = some (id, ⟨t, l⟩) → look objs id = some (.row t l)
  | [], _, _, _, h => by cases h
  | v :: r, id, t, l, h => by
    unfold rowArg at h
    split at h
    · split at h
      · rename_i hl
        cases h
        exact hl
      · exact rowArg_look h
    · exact rowArg_look h

theorem openArg_rep {ro' : Nat → Nat → Prop} {id : Nat} {t : E.Ty} {l : List (E.Den t)} (hro : ∀ k o, ro k o → ro' k o) {gh : Gh} (hi : ι id = some gh) (hd : DRep E w ro' gh.v (.slice t l)) {v : Value} {x : AV E} (h : Rep E w ro ι v x) : Rep E w ro' ι v (openArg id t l x) := by
  have hm := h.mono (w' := w) hro (fun _ _ _ => rfl) (fun _ _ h => h)
  cases h with
  | row gh' t' id' ad cap h1 h2 h3 h4 h5 =>
    show Rep E w ro' ι gh'.v (match Nat.beq id' id with | true => .d (.slice t l) | false => .row t' gh'.n id')
    cases hb : Nat.beq id' id with
    | false => exact hm
    | true =>
      have := Nat.eq_of_beq_eq_true hb
      subst this
      rw [h1] at hi
      cases hi
      exact .d _ _ hd
  | _ => exact hm

theorem done_callR (c : Ctx E S asm a w ι ro) {O : Oracle E} (hO : OracleOk E O) {o : Oper} {f : FuncId} {cal : Operand} {as : Array Operand} {ts : Array TypeId} (ho : o.op = .call { callee := .value cal, args := as, argTypes := ts }) (hfo : a.eval cal = .func (.func f) #[] #[])
    {r : Res E} (h : evCallR O S.objs f ts.toList (argsA S.tmps asm as) = some r) (hok : r.ok = true) : OpDone E o a w ι ro S.next r := by
  unfold evCallR at h
  split at h
  · rename_i id t l hra
    split at h
    · cases h
    · split at h
      · rename_i xs hxs
        split at h
        · rename_i ok res hres
          cases h
          have hok : ok = true := hok
          subst hok
          obtain ⟨gh, ys, hi, hn, hge, hgs, hown, hrow, hnro⟩ := c.objs id _ (rowArg_look hra)
          let ro1 : Nat → Nat → Prop := fun k o => ro k o ∨ gh.blk = some k
          have hro : ∀ k o, ro k o → ro1 k o := fun _ _ h => .inl h
          have hrolt : ∀ k o, ro1 k o → k < w.heap.size := by
            rintro k o (h | h)
            · exact c.rolt k o h
            · exact hown.lt h
          have hd : DRep E w ro1 gh.v (.slice t l) := by
            refine slice_of_rowD (xs := ys) (b := gh.blk) ?_ (fun g o hg _ => .inr hg) (hrow.mono hro (fun _ _ _ => rfl))
            rcases hown with ⟨h, hb⟩ | ⟨h0, h1, h2, h3⟩
            · exact .inl ⟨by rw [← hge, ← hgs, ← hn]; exact h, hb⟩
            · exact .inr ⟨by rw [← hn]; exact h0, h1, h2, h3⟩
          have args : ArgsRep E w ro1 (as.toList.map a.eval) xs :=
            foldArgs_rep (ι := ι) ts.toList _ _ xs (by simp [argsA]) (fun i v x hv hx => by
              rw [List.getElem?_map] at hx
              unfold argsA at hx
              rw [List.getElem?_map] at hv hx
              cases hi' : as.toList[i]? with
              | none => rw [hi'] at hv; cases hv
              | some y =>
                rw [hi'] at hv hx
                cases hv; cases hx
                exact openArg_rep hro hi hd (c.get y)) hxs
          obtain ⟨hfn, hcalls⟩ := hO.1 f xs res hres
          have enter := enter_of (a := a) (w := w) (P := P) ho hfo hfn
          refine .inr (.inr ⟨f, _, enter, (hcalls w ro1 _ args hrolt).mono fun e w' he => ?_⟩)
          obtain ⟨v, rfl, hb, hr⟩ := he
          have hcell : ∀ k o, ro1 k o → w'.cell? ⟨k, o, none⟩ = w.cell? ⟨k, o, none⟩ := fun k o h => hb.cell (p := ⟨k, o, none⟩) (hrolt k o h)
          refine ⟨v, ι, _, rfl, {
            os := hb.os
            tape := hb.tape
            output := hb.output
            size := hb.size
            frame := fun k hk _ => hb.block k hk
            cell := fun k o h => hcell k o (hro k o h)
            mono := fun _ _ h => .inl (hro _ _ h)
            rolt := fun k o h => by
              rcases h with h | h
              · exact Nat.lt_of_lt_of_le (hrolt k o h) hb.size
              · exact h.2
            fresh := fun k o h => by
              rcases h with (h | h) | h
              · exact .inl h
              · exact .inr (.inr ⟨id, _, gh, rfl, hi, h⟩)
              · exact .inr (.inl h.1)
            iold := fun id h => rfl
            inew := fun gh' k h hk => by rw [c.fresh] at h; cases h
            nonew := fun h => rfl
            upd := fun id o h => by cases h; trivial
            new := fun o h => by cases h
            val := retA_rep hr }⟩
        · cases h
      · cases h
  · cases h

theorem flatD_rep {w' : World} {ro' : Nat → Nat → Prop} {v : Value} {c : DVal E.Den} (h : flatD c = true) (hr : DRep E w ro v c) : DRep E w' ro' v c := by
  cases hr <;> first | exact .bool _ | exact .int _ _ | exact .str _ | cases h
theorem flat_trep {w' : World} {ro' : Nat → Nat → Prop} {v : Value} {t : E.Ty} {x : E.Den t} (h : (E.cells t x).all flatD = true) (hr : TRep E w ro v t x) : TRep E w' ro' v t x := by
  rw [List.all_eq_true] at h
  rcases hr with ⟨ha, vs, hv, hrow⟩ | ⟨ha, c, hc, hd⟩
  · exact .inl ⟨ha, vs, hv, hrow.1, fun j u c hu hc => flatD_rep (h c (List.mem_of_getElem? hc)) (hrow.2 j u c hu hc)⟩
  · exact .inr ⟨ha, c, hc, flatD_rep (h c (by rw [hc]; exact List.mem_cons_self)) hd⟩
theorem flat_args {w' : World} {ro' : Nat → Nat → Prop} : ∀ {vs : List Value} {rs : List (TV E)}, flatR rs = true → ArgsRep E w ro vs rs → ArgsRep E w' ro' vs rs
  | [], [], _, _ => trivial
  | v :: vs, ⟨t, x⟩ :: r, h, hr => by
    simp only [flatR, Bool.and_eq_true] at h
    exact ⟨flat_trep h.1 hr.1, flat_args h.2 hr.2⟩
  | [], _ :: _, _, h => h.elim
  | _ :: _, [], _, h => h.elim
theorem flat_ret {w' : World} {ro' : Nat → Nat → Prop} {v : Value} {rs : List (TV E)} (h : flatR rs = true) (hr : RetRep E w ro v rs) : RetRep E w' ro' v rs := by
  unfold RetRep at hr ⊢
  split at hr
  · simp only [flatR, Bool.and_eq_true] at h
    exact flat_trep h.1 hr
  · obtain ⟨vs, hv, ha⟩ := hr
    exact ⟨vs, hv, flat_args h ha⟩
def borRo (E : Env P) (objs : List (Nat × AObj E)) (ι : Nat → Option Gh) (ro : Nat → Nat → Prop) : Nat → Nat → Prop := fun k o => ro k o ∨ ∃ id t l gh, look objs id = some (.row t l) ∧ ι id = some gh ∧ gh.blk = some k
theorem openB_rep (c : Ctx E S asm a w ι ro) {v : Value} {x : AV E} (h : Rep E w ro ι v x) : Rep E w (borRo E S.objs ι ro) ι v (openB S.objs x) := by
  have hro : ∀ k o, ro k o → borRo E S.objs ι ro k o := fun _ _ h => .inl h
  have hm := h.mono (ro' := borRo E S.objs ι ro) hro (fun _ _ _ => rfl) (fun _ _ h => h)
  cases h with
  | row gh t id ad cap hi h2 h3 h4 h5 =>
    show Rep E w _ ι gh.v (match look S.objs id with | some (.row t' l) => .d (.slice t' l) | _ => .row t gh.n id)
    split
    · rename_i t' l hob
      obtain ⟨gh', ys, hi', hn, hge, hgs, hown, hrow, hnro⟩ := c.objs id _ hob
      rw [hi] at hi'
      cases hi'
      refine .d _ _ (slice_of_rowD (xs := ys) (b := gh.blk) ?_ (fun g o hg _ => .inr ⟨id, t', l, gh, hob, hi, hg⟩) (hrow.mono hro (fun _ _ _ => rfl)))
      rcases hown with ⟨h, hb⟩ | ⟨h0, h1, h2, h3⟩
      · exact .inl ⟨by rw [← hge, ← hgs, ← hn]; exact h, hb⟩
      · exact .inr ⟨by rw [← hn]; exact h0, h1, h2, h3⟩
    · exact hm
  | _ => exact hm
theorem openBV_rep (c : Ctx E S asm a w ι ro) {v : Value} {x : AV E} (h : Rep E w ro ι v x) : Rep E w (borRo E S.objs ι ro) ι v (openBV S.objs x) := by
  have h1 := openB_rep c h
  cases h with
  | agg vs cs hs hi =>
    refine .agg vs _ (by simp [hs]) fun j v y hv hy => ?_
    rw [List.getElem?_map] at hy
    cases hx : cs[j]? with
    | none => rw [hx] at hy; cases hy
    | some z => rw [hx] at hy; cases hy; exact openB_rep c (hi j v z hv hx)
  | _ => exact h1
theorem done_callB (c : Ctx E S asm a w ι ro) {O : Oracle E} (hO : OracleOk E O) {o : Oper} {f : FuncId} {cal : Operand} {as : Array Operand} {ts : Array TypeId} (ho : o.op = .call { callee := .value cal, args := as, argTypes := ts }) (hfo : a.eval cal = .func (.func f) #[] #[])
    {r : Res E} (h : evCallB O S.objs f ts.toList (argsA S.tmps asm as) = some r) (hok : r.ok = true) : OpDone E o a w ι ro S.next r := by
  unfold evCallB at h
  split at h
  · split at h
    · rename_i xs hxs
      split at h
      · rename_i ok res hres
        split at h
        · rename_i hfl
          cases h
          have hok : ok = true := hok
          subst hok
          have hrolt : ∀ k o, borRo E S.objs ι ro k o → k < w.heap.size := by
            rintro k o (h | ⟨id, t, l, gh, h1, h2, h3⟩)
            · exact c.rolt k o h
            · obtain ⟨gh', ys, hi', hn, hge, hgs, hown, hrow, hnro⟩ := c.objs id _ h1
              rw [h2] at hi'
              cases hi'
              exact hown.lt h3
          have args : ArgsRep E w (borRo E S.objs ι ro) (as.toList.map a.eval) xs :=
            foldArgs_rep (ι := ι) ts.toList _ _ xs (by simp [argsA]) (fun i v x hv hx => by
              rw [List.getElem?_map] at hx
              unfold argsA at hx
              rw [List.getElem?_map] at hv hx
              cases hi' : as.toList[i]? with
              | none => rw [hi'] at hv; cases hv
              | some y =>
                rw [hi'] at hv hx
                cases hv; cases hx
                exact openBV_rep c (c.get y)) hxs
          obtain ⟨hfn, hcalls⟩ := hO.1 f xs res hres
          have enter := enter_of (a := a) (w := w) (P := P) ho hfo hfn
          refine .inr (.inr ⟨f, _, enter, (hcalls w _ _ args hrolt).mono fun e w' he => ?_⟩)
          obtain ⟨v, rfl, hb, hr⟩ := he
          refine ⟨v, ι, ro, rfl, {
            os := hb.os
            tape := hb.tape
            output := hb.output
            size := hb.size
            frame := fun k hk _ => hb.block k hk
            cell := fun k o h => hb.cell (p := ⟨k, o, none⟩) (c.rolt k o h)
            mono := fun _ _ h => h
            rolt := fun k o h => Nat.lt_of_lt_of_le (c.rolt k o h) hb.size
            fresh := fun k o h => .inl h
            iold := fun id h => rfl
            inew := fun gh' k h hk => by rw [c.fresh] at h; cases h
            nonew := fun h => rfl
            upd := fun id o h => by cases h
            new := fun o h => by cases h
            val := retA_rep (flat_ret hfl hr) }⟩
        · cases h
      · cases h
    · cases h
  · cases h

theorem dAll_eq : ∀ {cs : List (AV E)} {ds : List (DVal E.Den)}, dAll cs = some ds → cs = ds.map AVal.d
  | [], ds, h => by cases h; rfl
  | v :: r, ds, h => by
    unfold dAll at h
    split at h
    · rename_i heq; cases heq
    · rename_i c r' heq
      cases heq
      split at h
      · rename_i l hl
        cases h
        rw [dAll_eq hl]; rfl
      · cases h
    · cases h
def borP (E : Env P) (objs : List (Nat × AObj E)) (ι : Nat → Option Gh) (ro : Nat → Nat → Prop) : Nat → Nat → Prop := fun k o => ro k o ∨ ∃ id cs gh, look objs id = some (.box cs) ∧ ι id = some gh ∧ gh.blk = some k
theorem lendP_rep (c : Ctx E S asm a w ι ro) : ∀ {args xs : List (AV E)} {vals : List Value}, lendP S.objs args = some xs → vals.length = args.length → (∀ (i : Nat) v x, vals[i]? = some v → args[i]? = some x → Rep E w ro ι v x) →
    vals.length = xs.length ∧ ∀ (i : Nat) v x, vals[i]? = some v → xs[i]? = some x → Rep E w (borP E S.objs ι ro) (fun _ => none) v x
  | [], xs, vals, h, hl, _ => by cases h; exact ⟨hl, fun i v x _ hx => by simp at hx⟩
  | y :: r, xs, vals, h, hl, hr => by
    match vals, hl with
    | u :: us, hl =>
      have hu := hr 0 u y rfl rfl
      have hus := fun i v x (hv : us[i]? = some v) (hx : r[i]? = some x) => hr (i + 1) v x (by simpa using hv) (by simpa using hx)
      have hl' : us.length = r.length := by simpa using hl
      unfold lendP at h
      split at h
      · rename_i heq; cases heq
      · rename_i id off r' heq
        cases heq
        split at h
        · rename_i cs hob
          split at h
          · rename_i ds hds
            split at h
            · rename_i l hl2
              cases h
              obtain ⟨q1, q2⟩ := lendP_rep c hl2 hl' hus
              refine ⟨by simpa using q1, fun i v x hv hx => ?_⟩
              cases i with
              | succ i => exact q2 i v x (by simpa using hv) (by simpa using hx)
              | zero =>
                simp only [List.getElem?_cons_zero, Option.some.injEq] at hv hx
                subst hv; subst hx
                obtain ⟨gh, g, vs, e, hi, hgv, hblk, hh, hsz, hcell, hnro⟩ := c.objs id _ hob
                cases hu with
                | ptr gh' g' id' off' hi' hgv' =>
                  rw [hi] at hi'; cases hi'
                  rw [hgv] at hgv'; cases hgv'
                  have hcs := dAll_eq hds
                  refine .pelt g off (fun j => vs.getD (off + j) undef) (ds.drop off) (fun j c' hj => ?_) (fun j c' hj => ?_)
                  · rw [List.getElem?_drop] at hj
                    have hlt : off + j < vs.size := by rw [hsz, hcs, List.length_map]; exact (List.getElem?_eq_some_iff.1 hj).1
                    refine ⟨.inr ⟨id, cs, gh, hob, hi, hblk⟩, ?_⟩
                    simp [World.cell?, hh, Array.getD, hlt]
                  · rw [List.getElem?_drop] at hj
                    have hlt : off + j < vs.size := by rw [hsz, hcs, List.length_map]; exact (List.getElem?_eq_some_iff.1 hj).1
                    have h1 : vs[off + j]? = some (vs.getD (off + j) undef) := by simp [Array.getD, hlt]
                    have h2 : cs[off + j]? = some (.d c') := by rw [hcs, List.getElem?_map, hj]; rfl
                    have := (hcell _ _ _ h1 h2).2
                    generalize vs.getD (off + j) undef = vq at this ⊢
                    cases this with
                    | d _ _ hd => exact hd.mono (fun _ _ h => .inl h) (fun _ _ _ => rfl)
            · cases h
          · cases h
        · cases h
      · rename_i c' r' heq
        cases heq
        split at h
        · rename_i l hl2
          cases h
          obtain ⟨q1, q2⟩ := lendP_rep c hl2 hl' hus
          refine ⟨by simpa using q1, fun i v x hv hx => ?_⟩
          cases i with
          | succ i => exact q2 i v x (by simpa using hv) (by simpa using hx)
          | zero =>
            simp only [List.getElem?_cons_zero, Option.some.injEq] at hv hx
            subst hv; subst hx
            cases hu with
            | d _ _ hd => exact .d _ _ (hd.mono (fun _ _ h => .inl h) (fun _ _ _ => rfl))
        · cases h
      · cases h
theorem done_callP (c : Ctx E S asm a w ι ro) {O : Oracle E} (hO : OracleOk E O) {o : Oper} {f : FuncId} {cal : Operand} {as : Array Operand} {ts : Array TypeId} (ho : o.op = .call { callee := .value cal, args := as, argTypes := ts }) (hfo : a.eval cal = .func (.func f) #[] #[])
    {r : Res E} (h : evCallP O S.objs f (argsA S.tmps asm as) = some r) (hok : r.ok = true) : OpDone E o a w ι ro S.next r := by
  unfold evCallP at h
  split at h
  · split at h
    · rename_i xs hxs
      replace h : O.inl.run f xs [] 0 keepP = some r := by
        split at h
        · rename_i hq; rw [hq]; exact h
        · cases h
      have hrolt : ∀ k o, borP E S.objs ι ro k o → k < w.heap.size := by
        rintro k o (h | ⟨id, cs, gh, h1, h2, h3⟩)
        · exact c.rolt k o h
        · obtain ⟨gh', g, vs, e, hi', _, hblk, hh, _⟩ := c.objs id _ h1
          rw [h2] at hi'
          cases hi'
          rw [h3] at hblk
          cases hblk
          rcases Nat.lt_or_ge k w.heap.size with hl | hl
          · exact hl
          · rw [Array.getElem?_eq_none hl] at hh; cases hh
      obtain ⟨hl, hargs⟩ := lendP_rep c (vals := as.toList.map a.eval) hxs (by simp [argsA]) (fun i v x hv hx => by
        unfold argsA at hx
        rw [List.getElem?_map] at hv hx
        cases hi' : as.toList[i]? with
        | none => rw [hi'] at hv; cases hv
        | some y =>
          rw [hi'] at hv hx
          cases hv; cases hx
          exact c.get y)
      obtain ⟨hfn, hcalls⟩ := hO.2.2.2.2 f xs [] 0 keepP r h
      have enter := enter_of (a := a) (w := w) (P := P) ho hfo hfn
      have hb0 : Base ⟨w, none, none⟩ (borP E S.objs ι ro) { tmps := #[], defers := [] } w (fun _ => none) (borP E S.objs ι ro) :=
        ⟨⟨rfl, rfl, rfl, Nat.le_refl _, fun _ _ _ => rfl⟩, hrolt, (fun _ _ h => .inl h), (fun _ _ _ h => by cases h), rfl, (fun _ h => by cases h)⟩
      refine .inr (.inr ⟨f, _, enter, (hcalls ⟨w, none, none⟩ _ _ w (fun _ => none) _ _ hb0 (fun id o h => by cases h) (fun id id' o o' gh gh' k (h : look [] id = some o) => by cases h) (fun _ _ => rfl) (fun id o h => by cases h) hl hargs).mono fun e w' he => ?_⟩)
      obtain ⟨v, x, objs', next', ι', ro', rfl, hk, hrep, hb, _, _, _, _, hcell, _⟩ := he
      unfold keepP at hk
      split at hk
      · rename_i d
        split at hk
        · rename_i hfl
          cases hk
          have hbl := hb.below
          refine ⟨v, ι, ro, rfl, {
            os := hbl.os
            tape := hbl.tape
            output := hbl.output
            size := hbl.size
            frame := fun k hk _ => hbl.block k hk (fun e => by cases e)
            cell := fun k o h => (hcell k o (.inl h)).2
            mono := fun _ _ h => h
            rolt := fun k o h => Nat.lt_of_lt_of_le (c.rolt k o h) hbl.size
            fresh := fun k o h => .inl h
            iold := fun id h => rfl
            inew := fun gh' k h hk => by rw [c.fresh] at h; cases h
            nonew := fun h => rfl
            upd := fun id o h => by cases h
            new := fun o h => by cases h
            val := by
              cases hrep with
              | d _ _ hd => exact .d _ _ (flatD_rep hfl hd) }⟩
        · cases hk
      · cases hk
    · cases h
  · cases h

theorem done_callG (c : Ctx E S asm a w ι ro) {O : Oracle E} (hO : OracleOk E O) {o : Oper} {f : FuncId} {cal : Operand} {as : Array Operand} {ts : Array TypeId} (ho : o.op = .call { callee := .value cal, args := as, argTypes := ts }) (hfo : a.eval cal = .func (.func f) #[] #[])
    {r : Res E} (h : evCallG O S.next f (argsA S.tmps asm as) = some r) (hok : r.ok = true) : OpDone E o a w ι ro S.next r := by
  have hargs : ∀ (i : Nat) v x, (as.toList.map a.eval)[i]? = some v → (argsA S.tmps asm as)[i]? = some x → Rep E w ro ι v x := fun i v x hv hx => by
    unfold argsA at hx
    rw [List.getElem?_map] at hv hx
    cases hi' : as.toList[i]? with
    | none => rw [hi'] at hv; cases hv
    | some y =>
      rw [hi'] at hv hx
      cases hv; cases hx
      exact c.get y
  have hlen : (as.toList.map a.eval).length = (argsA S.tmps asm as).length := by simp [argsA]
  have enter := enter_of (a := a) (w := w) (P := P) ho hfo
  generalize as.toList.map a.eval = vals at hargs hlen enter
  generalize argsA S.tmps asm as = avs at h hargs hlen
  unfold evCallG at h
  split at h
  · rename_i t n hg
    cases h
    match vals, hlen with
    | [u, v], _ =>
    have e1 := (hargs 0 u _ rfl rfl).raw_inv
    have e2 := (hargs 1 v _ rfl rfl).int_inv
    subst e1; subst e2
    have hok : (decide (0 ≤ n) && decide (n * (E.bytes t : Int) ≤ 140737488355328)) = true := hok
    simp only [Bool.and_eq_true, decide_eq_true_eq] at hok
    obtain ⟨hfn, hcalls⟩ := hO.2.2.2.1 f t hg
    refine .inr (.inr ⟨f, _, enter hfn, (hcalls w n hok.1 hok.2).mono fun e w' he => ?_⟩)
    obtain ⟨gh, rfl, hb, hn, hge, hgs, hown, hblk⟩ := he
    have hcell : ∀ k o, ro k o → w'.cell? ⟨k, o, none⟩ = w.cell? ⟨k, o, none⟩ := fun k o h => hb.cell (p := ⟨k, o, none⟩) (c.rolt k o h)
    obtain ⟨ad, cap, hgv, had⟩ := hown.shape
    exact ⟨gh.v, setGh ι S.next gh, ro, rfl, {
      os := hb.os
      tape := hb.tape
      output := hb.output
      size := hb.size
      frame := fun k hk _ => hb.block k hk
      cell := hcell
      mono := fun _ _ h => h
      rolt := fun k o h => Nat.lt_of_lt_of_le (c.rolt k o h) hb.size
      fresh := fun k o h => .inl h
      iold := fun id h => if_neg h
      inew := fun gh' k h hk => by
        simp [setGh] at h
        subst h
        exact ⟨hown.lt hk, .inl (hblk k hk)⟩
      nonew := fun h => by cases h
      upd := fun id o h => by cases h
      new := fun o h => by
        cases h
        exact ⟨gh, [], if_pos rfl, hn, hge, hgs, hown, fun i x j cc h => by simp at h, fun g hg o hr => by have := c.rolt g o hr; have := hblk g hg; omega⟩
      val := by
        have hv : Rep E w' ro (setGh ι S.next gh) gh.v (.row t gh.n S.next) := .row gh t S.next ad cap (if_pos rfl) hge hgs hgv had
        rw [hn] at hv
        exact hv }⟩
  · cases h

theorem done_callM (c : Ctx E S asm a w ι ro) {O : Oracle E} (hO : OracleOk E O) {o : Oper} {f : FuncId} {cal : Operand} {as : Array Operand} {ts : Array TypeId} (ho : o.op = .call { callee := .value cal, args := as, argTypes := ts }) (hfo : a.eval cal = .func (.func f) #[] #[])
    {r : Res E} (h : evCallM O S.objs S.next f ts.toList (argsA S.tmps asm as) = some r) (hok : r.ok = true) : OpDone E o a w ι ro S.next r := by
  have hargs : ∀ (i : Nat) v x, (as.toList.map a.eval)[i]? = some v → (argsA S.tmps asm as)[i]? = some x → Rep E w ro ι v x := fun i v x hv hx => by
    unfold argsA at hx
    rw [List.getElem?_map] at hv hx
    cases hi' : as.toList[i]? with
    | none => rw [hi'] at hv; cases hv
    | some y =>
      rw [hi'] at hv hx
      cases hv; cases hx
      exact c.get y
  have hlen : (as.toList.map a.eval).length = (argsA S.tmps asm as).length := by simp [argsA]
  have enter := enter_of (a := a) (w := w) (P := P) ho hfo
  generalize as.toList.map a.eval = vals at hargs hlen enter
  generalize argsA S.tmps asm as = avs at h hargs hlen
  unfold evCallM at h
  split at h
  · rename_i T Ts t0 n0 id rest hts
    cases vals with
    | nil => simp at hlen
    | cons v vals =>
      have hr0 := hargs 0 v _ rfl rfl
      have hrest : ∀ (i : Nat) u x, vals[i]? = some u → rest[i]? = some x → Rep E w ro ι u x := fun i u x hu hx => hargs (i + 1) u x (by simpa using hu) (by simpa using hx)
      have hlen' : vals.length = rest.length := by simpa using hlen
      split at h
      · rename_i t l hob
        split at h
        · rename_i xs hxs
          have args := foldArgs_rep (ι := ι) Ts vals rest xs hlen' hrest hxs
          obtain ⟨gh, ys, hi, hn, hge, hgs, hown, hrow, hnro⟩ := c.objs id _ hob
          have hv : v = gh.v := by
            cases hr0 with
            | row gh' _ _ ad cap h1 h2 h3 h4 h5 => rw [h1] at hi; cases hi; rfl
          subst hv
          split at h
          · rename_i ok l' hres
            cases h
            have hok : ok = true := hok
            subst hok
            obtain ⟨hfn, hcalls⟩ := hO.2.2.1 f t l xs true l' hres
            refine .inr (.inr ⟨f, _, enter hfn, (hcalls w ro gh ys vals hn hge hgs hown hrow hnro args c.rolt).mono fun e w' he => ?_⟩)
            obtain ⟨val, gh', ys', rfl, hgrow, hn', hge', hgs', hown', hrow', hblk, hback, _⟩ := he
            obtain rfl := hback rfl
            have hcell : ∀ k o, ro k o → w'.cell? ⟨k, o, none⟩ = w.cell? ⟨k, o, none⟩ := fun k o h => World.cell?_of_block (hgrow.block k (c.rolt k o h) (fun e => hnro k e.symm o h))
            obtain ⟨ad, cap, hgv, had⟩ := hown'.shape
            exact ⟨gh'.v, setGh ι S.next gh', fun k o => ro k o ∨ (gh'.blk ≠ some k ∧ (gh.blk = some k ∨ w.heap.size ≤ k ∧ k < w'.heap.size)), rfl, {
              os := hgrow.os
              tape := hgrow.tape
              output := hgrow.output
              size := hgrow.size
              frame := fun k hk hne => hgrow.block k hk (fun e => hne id _ gh rfl hi e.symm)
              cell := hcell
              mono := fun _ _ h => .inl h
              rolt := fun k o h => by
                rcases h with h | ⟨_, h | h⟩
                · exact Nat.lt_of_lt_of_le (c.rolt k o h) hgrow.size
                · exact Nat.lt_of_lt_of_le (hown.lt h) hgrow.size
                · exact h.2
              fresh := fun k o h => by
                rcases h with h | ⟨_, h | h⟩
                · exact .inl h
                · exact .inr (.inr ⟨id, _, gh, rfl, hi, h⟩)
                · exact .inr (.inl h.1)
              iold := fun id h => if_neg h
              inew := fun gh'' k h hk => by
                simp [setGh] at h
                subst h
                refine ⟨hown'.lt hk, ?_⟩
                rcases hblk k hk with h | h
                · exact .inr ⟨id, _, gh, rfl, rfl, hi, h⟩
                · exact .inl h
              nonew := fun h => by cases h
              upd := fun id o h => by cases h; trivial
              new := fun o h => by
                cases h
                refine ⟨gh', ys', if_pos rfl, hn', hge', hgs', hown', hrow', fun g hg o hr => ?_⟩
                rcases hr with hr | ⟨hne, _⟩
                rotate_left
                · exact hne hg
                rcases hblk g hg with h | h
                · exact hnro g h o hr
                · have := c.rolt g o hr; omega
              val := by rw [← hn']; exact .row gh' t S.next ad cap (if_pos rfl) hge' hgs' hgv had }⟩
          · rename_i ok l' hres
            cases h
            have hok : ok = true := hok
            subst hok
            obtain ⟨hfn, hcalls⟩ := hO.2.2.1 f t l xs false l' hres
            refine .inr (.inr ⟨f, _, enter hfn, (hcalls w ro gh ys vals hn hge hgs hown hrow hnro args c.rolt).mono fun e w' he => ?_⟩)
            obtain ⟨val, gh', ys', rfl, hgrow, hn', hge', hgs', hown', hrow', hblk, _, hsame⟩ := he
            obtain rfl := hsame rfl
            have hcell : ∀ k o, ro k o → w'.cell? ⟨k, o, none⟩ = w.cell? ⟨k, o, none⟩ := fun k o h => World.cell?_of_block (hgrow.block k (c.rolt k o h) (fun e => hnro k e.symm o h))
            exact ⟨val, ι, fun k o => ro k o ∨ (gh'.blk ≠ some k ∧ (gh'.blk = some k ∨ w.heap.size ≤ k ∧ k < w'.heap.size)), rfl, {
              os := hgrow.os
              tape := hgrow.tape
              output := hgrow.output
              size := hgrow.size
              frame := fun k hk hne => hgrow.block k hk (fun e => hne id _ gh' rfl hi e.symm)
              cell := hcell
              mono := fun _ _ h => .inl h
              rolt := fun k o h => by
                rcases h with h | ⟨_, h | h⟩
                · exact Nat.lt_of_lt_of_le (c.rolt k o h) hgrow.size
                · exact Nat.lt_of_lt_of_le (hown.lt h) hgrow.size
                · exact h.2
              fresh := fun k o h => by
                rcases h with h | ⟨_, h | h⟩
                · exact .inl h
                · exact .inr (.inr ⟨id, _, gh', rfl, hi, h⟩)
                · exact .inr (.inl h.1)
              iold := fun id h => rfl
              inew := fun gh'' k h hk => by rw [c.fresh] at h; cases h
              nonew := fun h => rfl
              upd := fun id' o h => by
                cases h
                exact ⟨gh', ys', hi, hn', hge', hgs', hown', hrow', fun g hg o hr => by
                  rcases hr with hr | ⟨hne, _⟩
                  · exact hnro g hg o hr
                  · exact hne hg⟩
              new := fun o h => by cases h
              val := .any _ }⟩
          · cases h
        · cases h
      · cases h
  · rename_i T Ts rest hts
    cases vals with
    | nil => simp at hlen
    | cons v vals =>
      have e1 := (hargs 0 v _ rfl rfl).raw_inv
      subst e1
      have hrest : ∀ (i : Nat) u x, vals[i]? = some u → rest[i]? = some x → Rep E w ro ι u x := fun i u x hu hx => hargs (i + 1) u x (by simpa using hu) (by simpa using hx)
      have hlen' : vals.length = rest.length := by simpa using hlen
      split at h
      · rename_i e he
        split at h
        · rename_i t ht
          split at h
          · rename_i xs hxs
            have args := foldArgs_rep (ι := ι) Ts vals rest xs hlen' hrest hxs
            split at h
            · rename_i ok l' hres
              cases h
              have hok : ok = true := hok
              subst hok
              obtain ⟨hfn, hcalls⟩ := hO.2.2.1 f t [] xs true l' hres
              refine .inr (.inr ⟨f, _, enter hfn, (hcalls w ro ⟨.slice none 0 0, 0, E.tid t, E.size t, none⟩ [] vals rfl rfl rfl (.inl ⟨World.ownsRow_nil w 0 _ _, rfl⟩) (fun i x j cc h => by simp at h) (fun g hg => by cases hg) args c.rolt).mono fun e w' he => ?_⟩)
              obtain ⟨val, gh', ys', rfl, hgrow, hn', hge', hgs', hown', hrow', hblk, hback, _⟩ := he
              obtain rfl := hback rfl
              have hcell : ∀ k o, ro k o → w'.cell? ⟨k, o, none⟩ = w.cell? ⟨k, o, none⟩ := fun k o h => World.cell?_of_block (hgrow.block k (c.rolt k o h) (fun e => by cases e))
              obtain ⟨ad, cap, hgv, had⟩ := hown'.shape
              exact ⟨gh'.v, setGh ι S.next gh', fun k o => ro k o ∨ (gh'.blk ≠ some k ∧ ((none : Option Nat) = some k ∨ w.heap.size ≤ k ∧ k < w'.heap.size)), rfl, {
                os := hgrow.os
                tape := hgrow.tape
                output := hgrow.output
                size := hgrow.size
                frame := fun k hk _ => hgrow.block k hk (fun e => by cases e)
                cell := hcell
                mono := fun _ _ h => .inl h
                rolt := fun k o h => by
                  rcases h with h | ⟨_, h | h⟩
                  · exact Nat.lt_of_lt_of_le (c.rolt k o h) hgrow.size
                  · cases h
                  · exact h.2
                fresh := fun k o h => by
                  rcases h with h | ⟨_, h | h⟩
                  · exact .inl h
                  · cases h
                  · exact .inr (.inl h.1)
                iold := fun id h => if_neg h
                inew := fun gh'' k h hk => by
                  simp [setGh] at h
                  subst h
                  refine ⟨hown'.lt hk, ?_⟩
                  rcases hblk k hk with h | h
                  · cases h
                  · exact .inl h
                nonew := fun h => by cases h
                upd := fun id o h => by cases h
                new := fun o h => by
                  cases h
                  refine ⟨gh', ys', if_pos rfl, hn', hge', hgs', hown', hrow', fun g hg o hr => ?_⟩
                  rcases hr with hr | ⟨hne, _⟩
                  · rcases hblk g hg with h | h
                    · cases h
                    · have := c.rolt g o hr; omega
                  · exact hne hg
                val := by rw [← hn']; exact .row gh' t S.next ad cap (if_pos rfl) hge' hgs' hgv had }⟩
            · cases h
          · cases h
        · cases h
      · cases h
  · cases h

theorem done_buildEmpty (c : Ctx E S asm a w ι ro) {o : Oper} {T : TypeId} {n : Nat} {ps : Array (Nat × Operand)} (ho : o.op = .buildSlice T n ps) {r : Res E} (h : evBuildEmpty S.next T n (partsA S.tmps asm ps) = some r) :
    OpDone E o a w ι ro S.next r := by
  unfold evBuildEmpty at h
  split at h
  · rename_i hps
    split at h
    · rename_i e he
      split at h
      · rename_i t ht
        cases h
        have htid := E.code_ok e t ht
        subst htid
        have hu := elemT_inv he
        have hps' : ps = #[] := by
          have : ps.toList = [] := by simpa [partsA] using hps
          simpa using this
        subst hps'
        let gh : Gh := ⟨.slice (some ⟨w.heap.size, 0, none⟩) 0 0, 0, E.tid t, E.size t, none⟩
        refine .inl ⟨gh.v, w.alloc (.cells #[] (E.tid t)), setGh ι S.next gh, ro, ?_, {
          os := rfl
          tape := rfl
          output := rfl
          size := by simp
          frame := fun k hk _ => heap_alloc_old w _ hk
          cell := fun k o h => cell_alloc w _ (c.rolt k o h) o
          mono := fun _ _ h => h
          rolt := fun k o h => by have := c.rolt k o h; simp; omega
          fresh := fun k o h => .inl h
          iold := fun id h => if_neg h
          inew := fun gh' k h hk => by
            simp [setGh] at h
            subst h
            cases hk
          nonew := fun h => by cases h
          upd := fun id o h => by cases h
          new := fun o h => by
            cases h
            exact ⟨gh, [], if_pos rfl, rfl, rfl, rfl, .inr ⟨rfl, rfl, rfl, _, rfl⟩, fun i x j cc h => by simp at h, fun g hg => by cases hg⟩
          val := .row gh t S.next _ 0 (if_pos rfl) rfl rfl rfl (fun h => by cases h) }⟩
        simp only [execOp, ho, Instr.buildSlice]
        simp only [Sem.run_bind, run_underlying hu, Result.andThen_ok, run_size_tid, Nat.zero_mul]
        have e0 : Array.map (fun _ => (default : Value)) (Array.range 0) = #[] := Array.eq_empty_of_size_eq_zero (by simp)
        simp [Instr.fill, newRow, gh, e0]
      · cases h
    · cases h
  · cases h

/-- A row of its own, written anew. -/
theorem OpPost.rowset (c : Ctx E S asm a w ι ro) {gh : Gh} {g id cap : Nat} {t : E.Ty} {l : List (E.Den t)} {cur : Array Value} (hi : ι id = some gh) (hgv : gh.v = .slice (some ⟨g, 0, none⟩) gh.n cap) (hblk : gh.blk = some g)
    (hh : w.heap[g]? = some (.cells cur gh.e (0, 0))) (hnc : gh.n ≤ cap) (hcm : cap ≤ maxLen) (hcs : cur.size = cap * gh.sz) (hn : gh.n = l.length) (hge : gh.e = E.tid t) (hgs : gh.sz = E.size t) (hnro : ∀ o, ¬ ro g o) (new : List Value) (hnewl : new.length = cur.size)
    (hrow : RowD E w ro t (new.take (gh.n * gh.sz)) l) {val : Value} {k : IntKind} {q : Int} (hval : val = .int k q) :
    OpPost E w (w.setRow g new.toArray) ι ι ro ro S.next ⟨true, .d (.int k q), some (id, .row t l), none⟩ val := by
  have hcellro : ∀ k o, ro k o → (w.setRow g new.toArray).cell? ⟨k, o, none⟩ = w.cell? ⟨k, o, none⟩ := by
    intro k o hro
    exact World.cell?_of_block (setRow_other w g k _ (fun e => hnro o (by rw [← e]; exact hro)))
  have hmul2 : gh.n * gh.sz ≤ cap * gh.sz := Nat.mul_le_mul_right _ hnc
  exact {
    os := rfl
    tape := rfl
    output := rfl
    size := by simp [World.setRow]
    frame := fun k hk hne => setRow_other w g k _ (fun e => hne id _ gh rfl hi (by rw [hblk, e]))
    cell := hcellro
    mono := fun _ _ h => h
    rolt := fun k o h => by have := c.rolt k o h; simp [World.setRow]; exact this
    fresh := fun _ _ h => .inl h
    iold := fun _ _ => rfl
    inew := fun gh k h => by rw [c.fresh] at h; cases h
    nonew := fun _ => rfl
    upd := fun id' o' h => by
      cases h
      refine ⟨gh, new.take (gh.n * gh.sz), hi, hn, hge, hgs, .inl ⟨⟨by rw [List.length_take, hnewl, hcs]; exact Nat.min_eq_left hmul2, .inr ⟨g, cap, new.toArray, hgv, Nat.zero_le _, setRow_heap w g cur _ _ _ hh, hnc, hcm, by simp [hnewl, hcs], by simp⟩⟩, by rw [hblk, hgv]; rfl⟩,
        hrow.mono (fun _ _ h => h) hcellro, fun g' hg' o ho => ?_⟩
      rw [hblk] at hg'
      cases hg'
      exact hnro o ho
    new := fun o h => by cases h
    val := by rw [hval]; exact .d _ _ (.int _ _) }

theorem done_make (c : Ctx E S asm a w ι ro) {o : Oper} {T : TypeId} {n m : Operand} (ho : o.op = .makeSlice T n m) {r : Res E} (h : evMake S.next T (getA S.tmps asm n) (getA S.tmps asm m) = some r) (hok : r.ok = true) : OpDone E o a w ι ro S.next r := by
  have hn := c.get n
  have hm := c.get m
  generalize hvn : a.eval n = vn at hn
  generalize hvm : a.eval m = vm at hm
  generalize getA S.tmps asm n = N at *
  generalize getA S.tmps asm m = M at *
  unfold evMake at h
  split at h
  · rename_i e he
    split at h
    · rename_i t k1 l k2 q ht
      split at h
      · rename_i cs hcs
        split at h
        · rename_i ds hds
          split at h
          · rename_i x hx
            cases h
            have e1 := hn.int_inv
            have e2 := hm.int_inv
            subst e1; subst e2
            have htid := E.code_ok e t ht
            subst htid
            simp only [Bool.and_eq_true, decide_eq_true_eq] at hok
            obtain ⟨⟨h0, h1⟩, h2⟩ := hok
            obtain ⟨i, z, hi, his, hib, hz, hzs⟩ := E.info_ok t
            obtain ⟨i', z', hi', hz', hcs', _⟩ := run_zero (w := w) hcs
            rw [hi] at hi'
            cases hi'
            rw [hz] at hz'
            cases hz'
            have hpos := E.size_pos t
            have hbp := E.bytes_pos t
            have hq : q ≤ q * (E.bytes t : Int) := by
              have := Int.mul_le_mul_of_nonneg_left (show (1 : Int) ≤ (E.bytes t : Int) by omega) (show 0 ≤ q by omega)
              omega
            have hmb : (maxBytes : Int) = 140737488355328 := rfl
            have hrun := run_make (P := P) w T (E.tid t) i z (elemT_inv he) hi hz k1 k2 l q h0 h1 (by rw [hib, Int.mul_comm]; omega) (by omega)
            rw [his] at hrun
            let cur := madeCells z.cells (q.toNat * E.size t)
            have hcur : cur.size = q.toNat * E.size t := size_madeCells _ _
            have hle : l.toNat ≤ q.toNat := by omega
            have hmul : l.toNat * E.size t ≤ q.toNat * E.size t := Nat.mul_le_mul_right _ hle
            let gh : Gh := ⟨.slice (some ⟨w.heap.size, 0, none⟩) l.toNat q.toNat, l.toNat, E.tid t, E.size t, some w.heap.size⟩
            have hown : OwnT (w.alloc (.cells cur (E.tid t))) gh (cur.toList.take (l.toNat * E.size t)) :=
              .inl ⟨⟨by simp only [List.length_take, Array.length_toList, hcur]; exact Nat.min_eq_left hmul, .inr ⟨w.heap.size, q.toNat, cur, rfl, Nat.zero_le _, heap_alloc_new w _, hle, by unfold maxLen; omega, hcur, rfl⟩⟩, rfl⟩
            have hcell : ∀ k o, ro k o → (w.alloc (.cells cur (E.tid t))).cell? ⟨k, o, none⟩ = w.cell? ⟨k, o, none⟩ := fun k o h => cell_alloc w _ (c.rolt k o h) o
            have hlo := E.fold_ok t _ _ hx
            have hrow : RowD E (w.alloc (.cells cur (E.tid t))) ro t (cur.toList.take (l.toNat * E.size t)) (List.replicate l.toNat x) := by
              intro i0 y j cc hy hc
              have hil : i0 < l.toNat := by have := (List.getElem?_eq_some_iff.1 hy).1; simpa using this
              have hyx : y = x := by
                rw [List.getElem?_replicate] at hy
                rw [if_pos hil] at hy
                exact (Option.some.inj hy).symm
              subst hyx
              have hj : j < E.size t := by rw [← E.cells_len t y]; exact (List.getElem?_eq_some_iff.1 hc).1
              have hp : i0 * E.size t + j < l.toNat * E.size t := by
                have := Nat.mul_le_mul_right (E.size t) (show i0 + 1 ≤ l.toNat by omega)
                rw [Nat.succ_mul] at this
                omega
              have hjz : j < z.cells.size := by omega
              refine ⟨z.cells[j], ?_, ?_⟩
              · rw [List.getElem?_take_of_lt hp]
                show (madeCells z.cells (q.toNat * E.size t)).toList[i0 * E.size t + j]? = _
                unfold madeCells
                have e3 : (i0 * E.size t + j) % z.cells.size = j := by rw [hzs, Nat.mul_comm, Nat.mul_add_mod]; exact Nat.mod_eq_of_lt hj
                have hlt : i0 * E.size t + j < q.toNat * E.size t := by omega
                simp [hlt, e3, hjz]
              · have hd : j < ds.length := by rw [hlo.len, E.cells_len]; exact hj
                have hcj : cs[j]? = some (constS z.cells[j]) := by rw [hcs', List.getElem?_map]; simp [hjz]
                have hdj := toDs_at hds j _ _ hcj (List.getElem?_eq_getElem hd)
                have := toD_rep (w := w) (ro := ro) (ι := ι) (constS_rep z.cells[j]) hdj
                exact ((hlo.at_ j _ cc (List.getElem?_eq_getElem hd) hc).rep this).mono (fun _ _ h => h) hcell
            refine .inl ⟨_, _, setGh ι S.next gh, ro, ?_, ({
              os := rfl
              tape := rfl
              output := rfl
              size := by simp
              frame := fun k hk _ => heap_alloc_old w _ hk
              cell := hcell
              mono := fun _ _ h => h
              rolt := fun k o h => by have := c.rolt k o h; simp; omega
              fresh := fun _ _ h => .inl h
              iold := fun id h => if_neg h
              inew := fun gh' k h hk => by
                simp [setGh] at h
                subst h
                cases hk
                exact ⟨by simp, .inl (Nat.le_refl _)⟩
              nonew := fun h => by cases h
              upd := fun id o h => by cases h
              new := fun o h => by
                cases h
                refine ⟨gh, _, if_pos rfl, by simp [gh], rfl, rfl, hown, hrow, fun g hg o hr => ?_⟩
                cases hg
                have := c.rolt _ o hr
                omega
              val := .row gh t S.next _ _ (if_pos rfl) rfl rfl rfl (fun _ => ⟨_, rfl⟩) } : OpPost E w (w.alloc (.cells cur (E.tid t))) ι (setGh ι S.next gh) ro ro S.next _ gh.v)⟩
            simp only [execOp, ho, hvn, hvm, Sem.run_bind, hrun, Result.andThen_ok, Sem.run_pure]
            rfl
          · cases h
        · cases h
      · cases h
    · cases h
  · cases h

theorem done_copy (c : Ctx E S asm a w ι ro) {o : Oper} {T : TypeId} {d s : Operand} (ho : o.op = .call { callee := .builtin .copy, args := #[d, s], argTypes := #[T, T] }) {r : Res E}
    (h : evCopy S.objs T (getA S.tmps asm d) (getA S.tmps asm s) = some r) : OpDone E o a w ι ro S.next r := by
  have hs := c.get s
  have hd := c.get d
  generalize hvs : a.eval s = vs at hs
  generalize hvd : a.eval d = vd at hd
  generalize getA S.tmps asm s = Y at *
  generalize getA S.tmps asm d = X at *
  unfold evCopy at h
  split at h
  · rename_i e he
    have hu := elemT_inv he
    split at h
    · rename_i t0 n0 id t l2 hsl
      split at h
      · rename_i t' l1 hob
        split at h
        · rename_i l2' hc
          split at h
          · rename_i hb
            cases h
            have hb := Nat.eq_of_beq_eq_true hb
            subst hb
            obtain ⟨ee, hl⟩ := castL_eq hc
            subst ee
            obtain rfl : l2 = l2' := hl.symm
            have hd2 := sliceA_rep hs hsl
            cases hd with
            | row gh _ _ ad cap hi hge0 hgs0 hgv had =>
              obtain ⟨gh', xs, hi', hn, hge, hgs, hown, hrow, hnro⟩ := c.objs id _ hob
              rw [hi] at hi'
              cases hi'
              obtain ⟨ad2, cap2, news, rfl, hnl, had2, hnc2, hn1, hnd⟩ := hd2.row
              obtain ⟨i, z, hinfo, his, hib, hz, hzs⟩ := E.info_ok t
              have fin : ∀ {v' : Value} {w' : World}, (Builtin.copy_ #[T, T] o.type #[gh.v, .slice ad2 l2.length cap2]).run P w = .ok v' w' → (execOp a.eval o).run P w = .ok (.value v') w' := by
                intro v' w' hr
                simp only [execOp, ho, resolve, invoke, builtin, Sem.run_bind, Sem.run_pure, Result.andThen_ok, List.map_toArray, List.map_cons, List.map_nil, hvs, hvd, hr]
              by_cases h0 : Nat.min l2.length l1.length = 0
              · have hl' : l2.take l1.length ++ l1.drop l2.length = l1 := by
                  rcases Nat.eq_zero_or_pos l2.length with h | h
                  · obtain rfl := List.eq_nil_of_length_eq_zero h; simp
                  · have : l1.length = 0 := by simp only [Nat.min_def] at h0; split at h0 <;> omega
                    obtain rfl := List.eq_nil_of_length_eq_zero this; simp
                rw [hl']
                have hm0 : min l1.length l2.length = 0 := by rw [Nat.min_comm]; exact h0
                rw [hm0]
                refine .inl ⟨.int .i64 0, w, ι, ro, fin ?_, {
                  os := rfl
                  tape := rfl
                  output := rfl
                  size := Nat.le_refl _
                  frame := fun _ _ _ => rfl
                  cell := fun _ _ _ => rfl
                  mono := fun _ _ h => h
                  rolt := c.rolt
                  fresh := fun _ _ h => .inl h
                  iold := fun _ _ => rfl
                  inew := fun gh k h => by rw [c.fresh] at h; cases h
                  nonew := fun _ => rfl
                  upd := fun id o h => by cases h; exact ⟨gh, xs, hi, hn, hge, hgs, hown, hrow, hnro⟩
                  new := fun o h => by cases h
                  val := .d _ _ (.int _ _) }⟩
                rw [hgv, hn]
                have hl0 : ∀ (x : Addr), (loadCells x 0).run P w = .ok #[] w := fun x => by simpa using run_loadCells_list (P := P) w x [] (by simp)
                cases ad <;> cases ad2 <;> simp [Builtin.copy_, run_underlying hu, Builtin.lenOf, Builtin.firstCells, sizeOf, typeInfo, hinfo, h0, storeCells, hl0, goInt]
              · have hpos1 : 0 < l1.length := by simp only [Nat.min_def] at h0; split at h0 <;> omega
                have hpos2 : 0 < l2.length := by simp only [Nat.min_def] at h0; split at h0 <;> omega
                have hownR : w.ownsRow 0 gh.e gh.sz gh.v gh.n xs ∧ gh.blk = gh.v.ownBlock := by
                  rcases hown with h | h
                  · exact h
                  · omega
                obtain ⟨⟨hxl, hrowO⟩, hblk⟩ := hownR
                rcases hrowO with ⟨h0', _⟩ | ⟨g, cap', cur, hv', _, hh, hnc, hcm, hcs, htake⟩
                · rw [h0'] at hgv; injection hgv with _ e; omega
                · have hblk' : gh.blk = some g := by rw [hblk, hv']; rfl
                  generalize hk : Nat.min l2.length l1.length = k at h0
                  have hk1 : k ≤ l1.length := by rw [← hk]; exact Nat.min_le_right _ _
                  have hk2 : k ≤ l2.length := by rw [← hk]; exact Nat.min_le_left _ _
                  have hkm1 : k * E.size t ≤ l1.length * E.size t := Nat.mul_le_mul_right _ hk1
                  have hkm2 : k * E.size t ≤ l2.length * E.size t := Nat.mul_le_mul_right _ hk2
                  have hkm3 : gh.n * gh.sz ≤ cap' * gh.sz := Nat.mul_le_mul_right _ hnc
                  rw [hn, hgs] at hkm3
                  cases ad2 with
                  | none => have := had2 rfl; omega
                  | some A =>
                    let cs : List Value := news.take (k * E.size t)
                    have hcl : cs.length = k * E.size t := by simp only [cs, List.length_take]; omega
                    have hsrc : ∀ j v, cs[j]? = some v → w.cell? (A.add j) = some v := fun j v hj => by
                      have hlt : j < k * E.size t := by rw [← hcl]; exact (List.getElem?_eq_some_iff.1 hj).1
                      rw [List.getElem?_take_of_lt hlt] at hj
                      exact hnc2 A rfl j v hj
                    have hf := run_firstCells_some (P := P) w (E.size t) k A l2.length cap2 cs hcl hsrc
                    have hone : ∀ v ∈ cs, v.oneCell' = true := fun v hv => hn1 v (List.mem_of_mem_take hv)
                    have hst := run_storeCells_at P g 0 gh.e cs 0 cur w hh (by rw [hcl, hcs, hgs]; omega) hone
                    simp only [Nat.zero_add, List.take_zero, List.nil_append] at hst
                    have e4 : min l1.length l2.length = k := by rw [Nat.min_comm]; exact hk
                    rw [e4]
                    refine .inl ⟨.int .i64 k, _, ι, ro, fin (w' := w.setRow g (cs ++ cur.toList.drop cs.length).toArray) ?_, OpPost.rowset c hi hv' hblk' hh hnc hcm hcs (by rw [hn]; simp only [List.length_append, List.length_take, List.length_drop]; omega) hge hgs (hnro g hblk') _ (by simp only [List.length_append, List.length_drop, Array.length_toList, hcl, hcs, hgs]; omega) ?_ rfl⟩
                    · rw [hv', hn]
                      simp [Builtin.copy_, run_underlying hu, Builtin.lenOf, sizeOf, typeInfo, hinfo, his, hk, hf, hst, goInt]
                    · intro i' x j cc hx hc
                      have hj : j < E.size t := by rw [← E.cells_len t x]; exact (List.getElem?_eq_some_iff.1 hc).1
                      have hll : (l2.take l1.length).length = k := by rw [List.length_take, ← hk]; exact Nat.min_comm _ _
                      rw [hn, hgs]
                      rcases Nat.lt_or_ge i' k with hik | hik
                      · rw [List.getElem?_append_left (by omega), List.getElem?_take_of_lt (by omega)] at hx
                        obtain ⟨u, hu', hdr⟩ := hnd i' x j cc hx hc
                        have hp : i' * E.size t + j < k * E.size t := by
                          have := Nat.mul_le_mul_right (E.size t) (show i' + 1 ≤ k by omega)
                          rw [Nat.succ_mul] at this
                          omega
                        refine ⟨u, ?_, hdr⟩
                        rw [List.getElem?_take_of_lt (by omega), List.getElem?_append_left (by omega), List.getElem?_take_of_lt hp]
                        exact hu'
                      · rw [List.getElem?_append_right (by omega), hll, List.getElem?_drop] at hx
                        have hil : l2.length + (i' - k) < l1.length := (List.getElem?_eq_some_iff.1 hx).1
                        have hkl : k = l2.length := by rw [← hk]; exact Nat.min_eq_left (by omega)
                        have e5 : l2.length + (i' - k) = i' := by omega
                        rw [e5] at hx hil
                        obtain ⟨u, hu', hdr⟩ := hrow i' x j cc hx hc
                        have hp : i' * E.size t + j < l1.length * E.size t := by
                          have := Nat.mul_le_mul_right (E.size t) (show i' + 1 ≤ l1.length by omega)
                          rw [Nat.succ_mul] at this
                          omega
                        have hp2 : k * E.size t ≤ i' * E.size t := Nat.mul_le_mul_right _ hik
                        refine ⟨u, ?_, hdr⟩
                        rw [List.getElem?_take_of_lt hp, List.getElem?_append_right (by omega), List.getElem?_drop, hcl, show k * E.size t + (i' * E.size t + j - k * E.size t) = i' * E.size t + j from by omega]
                        rw [← htake, hn, hgs, List.getElem?_take_of_lt hp] at hu'
                        exact hu'
          · cases h
        · cases h
      · cases h
    · cases h
  · cases h

theorem done_min (c : Ctx E S asm a w ι ro) {o : Oper} {T T' : TypeId} {big : Bool} {x y : Operand} (ho : o.op = .call { callee := .builtin (bif big then .max else .min), args := #[x, y], argTypes := #[T, T'] }) {r : AV E}
    (h : evMin big T (getA S.tmps asm x) (getA S.tmps asm y) = some r) : OpDone E o a w ι ro S.next (.pure r) := by
  have hx := c.get x
  have hy := c.get y
  generalize hvx : a.eval x = vx at hx
  generalize hvy : a.eval y = vy at hy
  generalize getA S.tmps asm x = X at *
  generalize getA S.tmps asm y = Y at *
  unfold evMin at h
  split at h
  · rename_i k0 k p k' q hk0
    split at h
    · rename_i hk
      cases h
      have e1 := hx.int_inv
      have e2 := hy.int_inv
      subst e1; subst e2
      cases big with
      | true =>
        refine c.pure (val := .int k (if q > p then q else p)) (by simp [execOp, ho, hvx, hvy, resolve, invoke, builtin, run_max_int2]) ?_
        rw [show (if q > p then q else p) = (bif true then (bif decide (p < q) then q else p) else (bif decide (q < p) then q else p)) from by by_cases hq : p < q <;> simp [hq, GT.gt]]
        exact .d _ _ (.int _ _)
      | false =>
        refine c.pure (val := .int k (if q < p then q else p)) (by simp [execOp, ho, hvx, hvy, resolve, invoke, builtin, run_min_int2]) ?_
        rw [show (if q < p then q else p) = (bif false then (bif decide (p < q) then q else p) else (bif decide (q < p) then q else p)) from by by_cases hq : q < p <;> simp [hq]]
        exact .d _ _ (.int _ _)
    · cases h
  · cases h

theorem opt_map {α β : Type} {f : α → β} {x : Option α} {y : β} (h : x.map f = some y) : ∃ z, x = some z ∧ f z = y := by
  cases x with
  | none => cases h
  | some z => exact ⟨z, rfl, by simpa using h⟩

theorem arr1 {α : Type} {as : Array α} {f : α → AV E} {x : AV E} (h : as.toList.map f = [x]) : ∃ s, as = #[s] ∧ f s = x := by
  obtain ⟨l⟩ := as
  match l, h with
  | [s], h => exact ⟨s, rfl, by simpa using h⟩

theorem arr2 {α : Type} {as : Array α} {f : α → AV E} {x y : AV E} (h : as.toList.map f = [x, y]) : ∃ s u, as = #[s, u] ∧ f s = x ∧ f u = y := by
  obtain ⟨l⟩ := as
  match l, h with
  | [s, u], h => exact ⟨s, u, rfl, by simp at h; exact h.1, by simp at h; exact h.2⟩

/-- EVERY OPERATION. -/
theorem op_done (c : Ctx E S asm a w ι ro) {O : Oracle E} (hO : OracleOk E O) {o : Oper} {r : Res E} (h : evOp O S asm o.op = some r) (hok : r.ok = true) : OpDone E o a w ι ro S.next r := by
  cases hop : o.op with
  | move x => rw [hop] at h; cases h; exact done_move c (.inl hop)
  | assign x => rw [hop] at h; cases h; exact done_move c (.inr hop)
  | pick x y z => rw [hop] at h; obtain ⟨q, hq, rfl⟩ := opt_map h; exact done_pick c hop hq
  | alloc T =>
    rw [hop] at h
    simp only [evOp] at h
    split at h
    · rename_i cs hcs
      split at h
      · rename_i hk; cases h; exact done_alloc c hop hcs hk
      · cases h
    · cases h
  | box T x =>
    rw [hop] at h
    simp only [evOp] at h
    split at h
    · rename_i cs hcs; cases h; exact done_box c hop hcs
    · cases h
  | build T ps => rw [hop] at h; obtain ⟨q, hq, rfl⟩ := opt_map h; exact done_build c hop hq
  | buildSlice T n ps =>
    rw [hop] at h
    simp only [evOp] at h
    split at h
    · rename_i q hq
      cases h
      exact done_buildEmpty c hop hq
    · obtain ⟨q, hq, rfl⟩ := opt_map h
      exact done_buildSlice c hop hq
  | load T x => rw [hop] at h; obtain ⟨q, hq, rfl⟩ := opt_map h; exact done_load c hop hq
  | store T x y =>
    rw [hop] at h
    simp only [evOp] at h
    split at h
    · rename_i u hu; cases h; exact done_store c hop hu
    · cases h
  | nilCheck x =>
    rw [hop] at h
    simp only [evOp] at h
    have hx := c.get x
    generalize hvx : a.eval x = vx at hx
    split at h
    · rename_i id off hg
      cases h
      rw [hg] at hx
      cases hx with
      | ptr gh g _ _ hi hgv => exact c.pure (val := .pointer (some ⟨g, off, none⟩)) (by simp [execOp, hop, hvx]) (.ptr gh g id off hi hgv)
    · rename_i cs hg
      cases h
      rw [hg] at hx
      cases hx with
      | pelt g off f _ h1 h2 => exact c.pure (val := .pointer (some ⟨g, off, none⟩)) (by simp [execOp, hop, hvx]) (.pelt g off f _ h1 h2)
    · rename_i id i off hg
      cases h
      rw [hg] at hx
      cases hx with
      | elt gh g _ _ _ cap hi hgv hlt => exact c.pure (val := .pointer (some ⟨g, i * gh.sz + off, none⟩)) (by simp [execOp, hop, hvx]) (.elt gh g id i off cap hi hgv hlt)
    · cases h
  | makeSlice T n m => rw [hop] at h; exact done_make c hop h hok
  | binOp op T x y T' =>
    rw [hop] at h
    simp only [evOp] at h
    split at h
    · rename_i q hq
      cases h
      exact done_bin c hop hq hok
    · obtain ⟨q, hq, rfl⟩ := opt_map h
      exact done_binEq c hop hq hok
  | unOp op T x => rw [hop] at h; obtain ⟨q, hq, rfl⟩ := opt_map h; exact done_un c hop hq hok
  | convert s d x => rw [hop] at h; obtain ⟨q, hq, rfl⟩ := opt_map h; exact done_conv c hop hq hok
  | fieldAddr s x f => rw [hop] at h; obtain ⟨q, hq, rfl⟩ := opt_map h; exact done_field c hop hq
  | field s x f => rw [hop] at h; obtain ⟨q, hq, rfl⟩ := opt_map h; exact done_fieldV c hop hq
  | indexAddr T x i =>
    rw [hop] at h
    simp only [evOp] at h
    split at h
    · rename_i q hq
      cases h
      exact done_indexAddr c hop hq hok
    · obtain ⟨q, hq, rfl⟩ := opt_map h
      exact done_indexArr c hop hq hok
  | index T x i =>
    rw [hop] at h
    simp only [evOp] at h
    split at h
    · rename_i q hq
      cases h
      exact done_index c hop hq hok
    · obtain ⟨q, hq, rfl⟩ := opt_map h
      exact done_indexV c hop hq hok
  | slice T x l hh m =>
    rw [hop] at h
    simp only [evOp] at h
    split at h
    · rename_i q hq
      cases h
      exact done_slice c hop hq hok
    · obtain ⟨q, hq, rfl⟩ := opt_map h
      exact done_sliceA c hop hq hok
  | extract x i => rw [hop] at h; obtain ⟨q, hq, rfl⟩ := opt_map h; exact done_extract c hop hq
  | call cl =>
    rw [hop] at h
    obtain ⟨callee, as, ts⟩ := cl
    simp only [evOp] at h
    split at h
    · rename_i hcallee
      split at h
      · rename_i x T hx hT
        obtain ⟨q, hq, rfl⟩ := opt_map h
        obtain ⟨s, rfl, rfl⟩ := arr1 hx
        exact done_len c hop hT hq
      · cases h
    · rename_i hcallee
      split at h
      · rename_i s x T T' hsx hTT
        split at h
        · rename_i hb
          have hb := Nat.eq_of_beq_eq_true hb
          subst hb
          obtain ⟨s', x', rfl, rfl, rfl⟩ := arr2 hsx
          obtain rfl : ts = #[T, T] := by obtain ⟨l⟩ := ts; simp at hTT; simp [hTT]
          exact done_append c hop h hok
        · obtain ⟨s', x', rfl, rfl, rfl⟩ := arr2 hsx
          obtain rfl : ts = #[T, T'] := by obtain ⟨l⟩ := ts; simp at hTT; simp [hTT]
          exact done_appendS c hop h hok
      · cases h
    · rename_i hcallee
      split at h
      · rename_i m n hx
        cases h
        obtain ⟨s, rfl, hs⟩ := arr1 hx
        have hv := c.get s
        rw [hs] at hv
        obtain ⟨x1, x2, e1, h1, h2⟩ := hv.cpx_inv
        exact c.pure (val := .float .f64 x1) (by simp only [execOp, hop, resolve, invoke, builtin, Sem.run_bind, Sem.run_pure, Result.andThen_ok, List.map_toArray, List.map_cons, List.map_nil, e1]; rfl) (.d _ _ (.flt _ _ h1))
      · cases h
    · rename_i hcallee
      split at h
      · rename_i m n hx
        cases h
        obtain ⟨s, rfl, hs⟩ := arr1 hx
        have hv := c.get s
        rw [hs] at hv
        obtain ⟨x1, x2, e1, h1, h2⟩ := hv.cpx_inv
        exact c.pure (val := .float .f64 x2) (by simp only [execOp, hop, resolve, invoke, builtin, Sem.run_bind, Sem.run_pure, Result.andThen_ok, List.map_toArray, List.map_cons, List.map_nil, e1]; rfl) (.d _ _ (.flt _ _ h2))
      · cases h
    · rename_i hcallee
      split at h
      · rename_i m n hx
        cases h
        obtain ⟨s, u, rfl, hs, hu⟩ := arr2 hx
        have hv := c.get s
        rw [hs] at hv
        have hv2 := c.get u
        rw [hu] at hv2
        obtain ⟨x1, e1, h1⟩ := hv.flt_inv
        obtain ⟨x2, e2, h2⟩ := hv2.flt_inv
        exact c.pure (val := .complex .f64 x1 x2) (by simp only [execOp, hop, resolve, invoke, builtin, Sem.run_bind, Sem.run_pure, Result.andThen_ok, List.map_toArray, List.map_cons, List.map_nil, e1, e2]; rfl) (.d _ _ (.cpx _ _ _ _ h1 h2))
      · cases h
    · rename_i hcallee
      split at h
      · rename_i s x T T' hsx hTT
        split at h
        · rename_i hb
          have hb := Nat.eq_of_beq_eq_true hb
          subst hb
          obtain ⟨s', x', rfl, rfl, rfl⟩ := arr2 hsx
          obtain rfl : ts = #[T, T] := by obtain ⟨l⟩ := ts; simp at hTT; simp [hTT]
          exact done_copy c hop h
        · cases h
      · cases h
    · rename_i hcallee
      split at h
      · rename_i s x T T' hsx hTT
        obtain ⟨q, hq, rfl⟩ := opt_map h
        obtain ⟨s', x', rfl, rfl, rfl⟩ := arr2 hsx
        obtain rfl : ts = #[T, T'] := by obtain ⟨l⟩ := ts; simp at hTT; simp [hTT]
        exact done_min (big := false) c hop hq
      · cases h
    · rename_i hcallee
      split at h
      · rename_i s x T T' hsx hTT
        obtain ⟨q, hq, rfl⟩ := opt_map h
        obtain ⟨s', x', rfl, rfl, rfl⟩ := arr2 hsx
        obtain rfl : ts = #[T, T'] := by obtain ⟨l⟩ := ts; simp at hTT; simp [hTT]
        exact done_min (big := true) c hop hq
      · cases h
    · rename_i cal
      split at h
      · rename_i f hf
        have hfo : a.eval cal = .func (.func f) #[] #[] := by
          unfold calleeA at hf
          split at hf
          · cases hf; rfl
          · unfold funcOf at hf
            split at hf
            · rename_i heq
              cases hf
              have hx := c.get cal
              rw [heq] at hx
              exact hx.raw_inv
            · cases hf
        split at h
        · rename_i q hq
          cases h
          exact done_callG c hO hop hfo hq hok
        split at h
        · rename_i q hq
          cases h
          exact done_callM c hO hop hfo hq hok
        split at h
        · rename_i q hq
          cases h
          exact done_callB c hO hop hfo hq hok
        · split at h
          · rename_i q hq
            cases h
            exact done_callR c hO hop hfo hq hok
          · split at h
            · rename_i q hq
              cases h
              exact done_callP c hO hop hfo hq hok
            · exact done_call c hO hop hfo h hok
      · cases h
    · cases h
  | _ => rw [hop] at h; cases h
end
end Go.Proofs.YtfoflgciceckoaaGreatDoor.Mir
