/- The Mirror, part J: regions in the order of the text. -/
import Derived.Test.YtfoflgciceckoaaGreatDoorMirI
namespace Go.Proofs.YtfoflgciceckoaaGreatDoor.Mir
open Go Go.RowKit

section
variable {P : Program} {E : Env P}

def guardOf (tm : List (Nat × AV E)) : Nat → Nat → Bool → Option (Bool × List (Nat × Bool))
  | 0, _, _ => none
  | f + 1, gs, want => match look tm gs with
    | some (.d (.bool b)) => some (bif want then b else !b, [(gs, want)])
    | some (.cond j w (.d (.bool b))) => match guardOf tm f j w with
      | some (b', asm) => some (b' && (bif want then b else !b), (gs, want) :: asm)
      | none => none
    | _ => none

def dstOf (ops : Array Oper) (j : Nat) : Option Nat := (ops[j]?).bind (·.dst)

def isCond : AV E → Bool
  | .cond _ _ _ => true
  | _ => false

/-- One operation of a region, its guard taken along. -/
def evG (O : Oracle E) (ops : Array Oper) (S : ASt E) (o : Oper) : Option (Res E) := match o.guard with
  | none => match evOp O S [] o.op with
    | some r => bif isCond r.v then none else some r
    | none => none
  | some (j, want) => match dstOf ops j with
    | none => none
    | some gs => match guardOf S.tmps 8 gs want with
      | none => none
      | some (b, asm) => match evOp O S asm o.op with
        | some ⟨ok, v, none, none⟩ => some ⟨ok || !b, .cond gs want v, none, none⟩
        | _ => none

def putO (objs : List (Nat × AObj E)) (nid : Nat) (r : Res E) : List (Nat × AObj E) :=
  (match r.new with | some o => [(nid, o)] | none => []) ++ ((match r.upd with | some u => [u] | none => []) ++ objs)

def putL (d : Option Nat) (v : AV E) (loc : List (Nat × AV E)) : List (Nat × AV E) := match d with
  | some d => (d, v) :: loc
  | none => loc

def unCond : List (Nat × AV E) → List (Nat × AV E)
  | [] => []
  | (t, x) :: r => bif isCond x then (t, .any) :: unCond r else (t, x) :: unCond r

/-- The slot d lies in the frame, and nothing that is known hangs on what it holds. -/
def condFree (d : Nat) : List (Nat × AV E) → Bool
  | [] => true
  | (_, .cond j _ _) :: r => (!Nat.beq j d) && condFree d r
  | _ :: r => condFree d r
def dstOk (n : Nat) (d : Option Nat) (loc : List (Nat × AV E)) : Bool := match d with
  | none => true
  | some d => Nat.blt d n && condFree d loc

/-- A call that is walked where it stands. -/
def inlOf (I : Inl E) (S : ASt E) (o : Oper) : Option (FuncId × List (AV E)) := match o.guard, o.op with
  | none, .call c => (match c.callee with
    | .value x => (match calleeA (getA S.tmps []) x with
      | some f => bif I.has f then some (f, argsA S.tmps [] c.args) else none
      | none => none)
    | _ => none)
  | _, _ => none

def evSeq {R : Type} (O : Oracle E) (ops : Array Oper) (n : Nat) (glob : List (Nat × AV E)) : List Oper → List (Nat × AV E) → List (Nat × AObj E) → Nat → (ASt E → Option R) → Option R
  | [], loc, objs, next, k => k ⟨n, unCond loc ++ glob, objs, next⟩
  | o :: rest, loc, objs, next, k => match inlOf O.inl ⟨n, loc ++ glob, objs, next⟩ o with
    | some (f, args) => O.inl.run f args objs next fun v objs' next' => match dstOk n o.dst ((0, v) :: loc) && !(isCond v) with
      | true => evSeq O ops n glob rest (putL o.dst v loc) objs' next' k
      | false => none
    | none => match evG O ops ⟨n, loc ++ glob, objs, next⟩ o with
      | some r => match dstOk n o.dst ((0, r.v) :: loc) with
        | true => bif r.ok then evSeq O ops n glob rest (putL o.dst r.v loc) (putO objs next r) (next + 1) k else none
        | false => none
      | none => none

def NoCond (tm : List (Nat × AV E)) : Prop := ∀ p ∈ tm, isCond p.2 = false
end

section
variable {P : Program} {E : Env P} {w w' : World} {ro ro' : Nat → Nat → Prop} {ι ι' : Nat → Option Gh} {S : ASt E} {asm : List (Nat × Bool)} {a : Act}

theorem look_app {α : Type} : ∀ (l m : List (Nat × α)) (i : Nat), look (l ++ m) i = (match look l i with | some x => some x | none => look m i)
  | [], m, i => rfl
  | (j, x) :: l, m, i => by
    simp only [List.cons_append, look]
    split
    · rfl
    · exact look_app l m i

theorem look_mem {α : Type} : ∀ (l : List (Nat × α)) (i : Nat) (x : α), look l i = some x → (i, x) ∈ l
  | [], i, x, h => by cases h
  | (j, y) :: l, i, x, h => by
    unfold look at h
    split at h
    · rename_i hj
      have := Nat.eq_of_beq_eq_true hj
      subst this
      cases h
      exact List.mem_cons_self
    · exact List.mem_cons_of_mem _ (look_mem l i x h)

theorem evG_plain {x : Option (Res E)} {r : Res E} (h : (match x with | some r => bif isCond r.v then none else some r | none => none) = some r) : x = some r ∧ isCond r.v = false := by
  cases x with
  | none => cases h
  | some q =>
    cases hq : isCond q.v with
    | true => rw [show (match some q with | some r => bif isCond r.v then none else some r | none => none) = (bif isCond q.v then none else some q) from rfl, hq] at h; cases h
    | false =>
      rw [show (match some q with | some r => bif isCond r.v then none else some r | none => none) = (bif isCond q.v then none else some q) from rfl, hq] at h
      cases h
      exact ⟨rfl, hq⟩

theorem guardOf_sound {tm : List (Nat × AV E)} (ht : TmOk E w ro ι a tm) : ∀ (f gs : Nat) (want : Bool) (b : Bool) (asm : List (Nat × Bool)), guardOf tm f gs want = some (b, asm) → a.tmps[gs]? = some (.bool want) → b = true ∧ AsmOk a asm
  | 0, _, _, _, _, h, _ => by cases h
  | f + 1, gs, want, b, asm, h, hw => by
    unfold guardOf at h
    split at h
    · rename_i b0 hl
      cases h
      obtain ⟨v, hv, hr⟩ := ht gs _ hl
      have e1 : v = .bool b0 := Rep.bool_inv hr
      rw [hw, e1] at hv
      cases hv
      refine ⟨by cases want <;> rfl, fun j b' hb => ?_⟩
      simp only [hasAsm, Bool.or_false, Bool.and_eq_true] at hb
      have e2 := Nat.eq_of_beq_eq_true hb.1
      have e3 : want = b' := by simpa using hb.2
      subst e2; subst e3
      exact hw
    · rename_i j w0 b0 hl
      split at h
      · rename_i b' asm' hg
        cases h
        obtain ⟨v, hv, hr1, hr2⟩ := ht gs _ hl
        rw [hw] at hv
        cases hv
        have hj : a.tmps[j]? = some (.bool w0) := by
          by_cases h : a.tmps[j]? = some (.bool w0)
          · exact h
          · exact absurd (hr2 h) (by simp [undef])
        have e1 := Rep.bool_inv (hr1 hj)
        cases e1
        obtain ⟨h1, h2⟩ := guardOf_sound ht f j w0 b' asm' hg hj
        refine ⟨by rw [h1]; cases want <;> rfl, asm_cons h2 hw⟩
      · cases h
    · cases h

/-- What a slot of a region holds. -/
def SlotOk (E : Env P) (w' : World) (ro' : Nat → Nat → Prop) (ι' : Nat → Option Gh) (a : Act) (val : Value) (x : AV E) : Prop :=
  ∀ tm : Array Value, (∀ gs want u, x = .cond gs want u → tm[gs]? = a.tmps[gs]?) → SRep E w' ro' ι' tm val x

theorem OpPost.anyV {nid : Nat} {r : Res E} {val : Value} (h : OpPost E w w' ι ι' ro ro' nid r val) : OpPost E w w' ι ι' ro ro' nid { r with v := .any } val where
  os := h.os
  tape := h.tape
  output := h.output
  size := h.size
  frame := h.frame
  cell := h.cell
  mono := h.mono
  rolt := h.rolt
  fresh := h.fresh
  iold := h.iold
  inew := h.inew
  nonew := h.nonew
  upd := h.upd
  new := h.new
  val := .any _

/-- One operation of a region, guarded or not. -/
theorem evG_sound (hrolt : ∀ k o, ro k o → k < w.heap.size) (htm : TmOk E w ro ι a S.tmps) (hobjs : ∀ (id : Nat) o, look S.objs id = some o → ObjOk E w ro ι id o) (hfresh : ι S.next = none)
    {O : Oracle E} (hO : OracleOk E O) {ops : Array Oper} {o : Oper} {r : Res E} (h : evG O ops S o = some r) (hok : r.ok = true) {K : Act → World → Prop} {Q : Exit → Act → World → Prop}
    (hK : ∀ val w' ι' ro', OpPost E w w' ι ι' ro ro' S.next { r with v := .any } val → SlotOk E w' ro' ι' a val r.v → K (a.put o.dst val) w') :
    if Region.wanted o (yielded ops a.tmps) = true then o.wp P a w K Q else K (a.put o.dst undef) w := by
  unfold evG at h
  split at h
  · rename_i hg
    have h := (evG_plain h).1
    have hw : Region.wanted o (yielded ops a.tmps) = true := by simp [Region.wanted, hg]
    rw [if_pos hw]
    have c : Ctx E S [] a w ι ro := ⟨htm, fun j b hb => by simp [hasAsm] at hb, hrolt, hobjs, hfresh⟩
    refine (op_done c hO h hok).wp fun val w' ι' ro' hp => hK val w' ι' ro' hp.anyV fun tm htm => ?_
    have hv := hp.val
    generalize r.v = x at hv htm
    cases hv with
    | any _ => exact .any _
    | d _ c h => exact .d _ c h
    | st vs t x ha h => exact .st vs t x ha h
    | agg vs cs h1 h2 => exact .agg vs cs h1 h2
    | tup vs cs h1 h2 => exact .tup vs cs h1 h2
    | grow gh t l id h1 h2 h3 h4 h5 => exact .grow gh t l id h1 h2 h3 h4 h5
    | ptr gh g id off h1 h2 => exact .ptr gh g id off h1 h2
    | pelt g off f cs h1 h2 => exact .pelt g off f cs h1 h2
    | row gh t id ad cap h1 h2 h3 h4 h5 => exact .row gh t id ad cap h1 h2 h3 h4 h5
    | elt gh g id i off cap h1 h2 h3 => exact .elt gh g id i off cap h1 h2 h3
  · rename_i j want hg
    split at h
    · cases h
    · rename_i gs hgs
      split at h
      · cases h
      · rename_i b asm hguard
        split at h
        · rename_i ok v hop
          cases h
          by_cases hw : a.tmps[gs]? = some (.bool want)
          · have hwant : Region.wanted o (yielded ops a.tmps) = true := by
              unfold dstOf at hgs
              simp [Region.wanted, hg, yielded, hgs, hw]
            rw [if_pos hwant]
            obtain ⟨hb, hasm⟩ := guardOf_sound htm _ _ _ _ _ hguard hw
            subst hb
            have hok' : ok = true := by simpa using hok
            have c : Ctx E S asm a w ι ro := ⟨htm, hasm, hrolt, hobjs, hfresh⟩
            refine (op_done c hO hop hok').wp fun val w' ι' ro' hp => hK val w' ι' ro' ?_ fun tm htm' => ?_
            · have := hp.anyV
              exact ⟨this.os, this.tape, this.output, this.size, this.frame, this.cell, this.mono, this.rolt, this.fresh, this.iold, this.inew, this.nonew, this.upd, this.new, .any _⟩
            · have e := htm' gs want v rfl
              refine ⟨fun _ => hp.val, fun hne => ?_⟩
              rw [e] at hne
              exact absurd hw hne
          · have hwant : ¬ Region.wanted o (yielded ops a.tmps) = true := by
              unfold dstOf at hgs
              simp only [Region.wanted, hg, yielded, hgs, Option.bind_some]
              intro hc
              split at hc
              · rename_i b' hb'
                have e : b' = want := by simpa using hc
                subst e
                exact hw hb'
              · simp at hc
            rw [if_neg hwant]
            refine hK undef w ι ro (.pure rfl rfl hrolt hfresh (.any _)) fun tm htm' => ?_
            have e := htm' gs want v rfl
            refine ⟨fun hc => ?_, fun _ => rfl⟩
            rw [e] at hc
            exact absurd hc hw
        · cases h

theorem OwnT.frame {gh : Gh} {xs : List Value} (h : OwnT w gh xs) (hf : ∀ g, gh.blk = some g → w'.heap[g]? = w.heap[g]?) : OwnT w' gh xs := by
  rcases h with ⟨⟨h1, h2⟩, hb⟩ | h
  · refine .inl ⟨⟨h1, ?_⟩, hb⟩
    rcases h2 with hn | ⟨g, cap, cur, hv, hb', hg, rest⟩
    · exact .inl hn
    · have hblk : gh.blk = some g := by rw [hb, hv]; rfl
      exact .inr ⟨g, cap, cur, hv, hb', (hf g hblk).trans hg, rest⟩
  · exact .inr h

/-- An object that the operation does not touch is as it was. -/
theorem ObjOk.step {objs : List (Nat × AObj E)} {nid : Nat} {r : Res E} {val : Value} (hp : OpPost E w w' ι ι' ro ro' nid r val) (hfresh : ι nid = none) (hinj : Inj E objs ι) (hupd : ∀ id o, r.upd = some (id, o) → ∃ o', look objs id = some o' ∧ o'.live = true)
    (hilt : ∀ id gh k, ι id = some gh → gh.blk = some k → k < w.heap.size) {id : Nat} {o : AObj E} (hl : look objs id = some o) (hid : id ≠ nid) (hne : ∀ o', r.upd ≠ some (id, o')) (h : ObjOk E w ro ι id o) : ObjOk E w' ro' ι' id o := by
  have hext : ∀ id gh, ι id = some gh → ι' id = some gh := by
    intro i gh hi
    rw [hp.iold i (fun e => by subst e; rw [hfresh] at hi; cases hi)]
    exact hi
  have mono : ∀ (v : Value) (x : AV E), Rep E w ro ι v x → Rep E w' ro' ι' v x := fun v x h => h.mono hp.mono hp.cell hext
  have hdiff : o.live = true → ∀ gh k, ι id = some gh → gh.blk = some k → (∀ id' o' gh', r.upd = some (id', o') → ι id' = some gh' → gh'.blk ≠ some k) := by
    intro hlive gh k hgh hk id' o' gh' hu hgh' hk'
    obtain ⟨o'', hl'', hlive''⟩ := hupd id' o' hu
    have := hinj id id' o o'' gh gh' k hl hl'' hlive hlive'' hgh hgh' hk hk'
    subst this
    exact hne o' hu
  cases o with
  | dead => trivial
  | box cs =>
    obtain ⟨gh, g, vs, e, hi, hgv, hblk, hh, hsz, hcell, hnro⟩ := h
    have hglt := hilt id gh g hi hblk
    have hd := hdiff rfl gh g hi hblk
    refine ⟨gh, g, vs, e, hext _ _ hi, hgv, hblk, (hp.frame g hglt hd).trans hh, hsz, fun j v c hv hc => ⟨(hcell j v c hv hc).1, mono _ _ (hcell j v c hv hc).2⟩, fun o hr => ?_⟩
    rcases hp.fresh g o hr with h | h | ⟨id', o', gh', hu, hgh', hk'⟩
    · exact hnro o h
    · omega
    · exact hd id' o' gh' hu hgh' hk'
  | tail live =>
    intro hlive
    obtain ⟨gh, xs, hi, hown, hnro⟩ := h hlive
    have hd := fun k hk => hdiff hlive gh k hi hk
    refine ⟨gh, xs, hext _ _ hi, ?_, fun g hg o ho hr => ?_⟩
    · exact hown.frame fun g hg => hp.frame g (hilt id gh g hi hg) (hd g hg)
    · rcases hp.fresh g o hr with h | h | ⟨id', o', gh', hu, hgh', hk'⟩
      · exact hnro g hg o ho h
      · have := hilt id gh g hi hg; omega
      · exact hd g hg id' o' gh' hu hgh' hk'
  | row t l =>
    obtain ⟨gh, xs, hi, hn, hge, hgs, hown, hrow, hnro⟩ := h
    have hd := fun k hk => hdiff rfl gh k hi hk
    refine ⟨gh, xs, hext _ _ hi, hn, hge, hgs, hown.frame fun g hg => hp.frame g (hilt id gh g hi hg) (hd g hg), hrow.mono hp.mono hp.cell, fun g hg o hr => ?_⟩
    rcases hp.fresh g o hr with h | h | ⟨id', o', gh', hu, hgh', hk'⟩
    · exact hnro g hg o h
    · have := hilt id gh g hi hg; omega
    · exact hd g hg id' o' gh' hu hgh' hk'

theorem evAppend_upd {objs : List (Nat × AObj E)} {nid : Nat} {T : TypeId} {s x : AV E} {r : Res E} (h : evAppend objs nid T s x = some r) {id : Nat} {ob : AObj E} (hu : r.upd = some (id, ob)) : ∃ o', look objs id = some o' ∧ o'.live = true := by
  unfold evAppend at h
  split at h
  · split at h
    · split at h
      · split at h
        · cases h; cases hu
        · split at h
          · rename_i hc hob
            cases h
            cases hu
            exact ⟨_, hob, rfl⟩
          · cases h
        · split at h
          · rename_i t' l1 hob
            split at h
            · cases h
              cases hu
              exact ⟨_, hob, rfl⟩
            · cases h
          · cases h
        · cases h
      · cases h
    · cases h
  · cases h

theorem evOp_upd {O : Oracle E} {S : ASt E} {asm : List (Nat × Bool)} {o : Op} {r : Res E} (h : evOp O S asm o = some r) {id : Nat} {ob : AObj E} (hu : r.upd = some (id, ob)) : ∃ o', look S.objs id = some o' ∧ o'.live = true := by
  cases o with
  | store T x y =>
    simp only [evOp] at h
    split at h
    · rename_i u hu'
      cases h
      cases hu
      unfold evStore at hu'
      split at hu'
      · rename_i id' off hx
        split at hu'
        · rename_i cs hob
          split at hu'
          · split at hu'
            · cases hu'; exact ⟨_, hob, rfl⟩
            · cases hu'
          · cases hu'
        · cases hu'
      · split at hu'
        · rename_i t l hob
          split at hu'
          · split at hu'
            · split at hu'
              · split at hu'
                · cases hu'; exact ⟨_, hob, rfl⟩
                · cases hu'
              · cases hu'
            · cases hu'
          · cases hu'
        · cases hu'
      · cases hu'
    · cases h
  | makeSlice T n c =>
    simp only [evOp] at h
    unfold evMake at h
    split at h
    · split at h
      · split at h
        · split at h
          · split at h
            · cases h; cases hu
            · cases h
          · cases h
        · cases h
      · cases h
    · cases h
  | call cl =>
    obtain ⟨callee, as, ts⟩ := cl
    simp only [evOp] at h
    split at h
    · split at h
      · obtain ⟨q, hq, rfl⟩ := opt_map h; cases hu
      · cases h
    · split at h
      · split at h
        · exact evAppend_upd h hu
        · unfold evAppendS at h
          split at h
          · split at h
            · split at h
              · split at h
                · exact evAppend_upd h hu
                · cases h
              · cases h
            · cases h
          · cases h
      · cases h
    · split at h
      · cases h; cases hu
      · cases h
    · split at h
      · cases h; cases hu
      · cases h
    · split at h
      · cases h; cases hu
      · cases h
    · split at h
      · split at h
        · unfold evCopy at h
          split at h
          · split at h
            · split at h
              · rename_i t' l1 hob
                split at h
                · split at h
                  · cases h
                    cases hu
                    exact ⟨_, hob, rfl⟩
                  · cases h
                · cases h
              · cases h
            · cases h
          · cases h
        · cases h
      · cases h
    · split at h
      · obtain ⟨q, hq, rfl⟩ := opt_map h; cases hu
      · cases h
    · split at h
      · obtain ⟨q, hq, rfl⟩ := opt_map h; cases hu
      · cases h
    · split at h
      · rename_i f hf
        split at h
        · rename_i q hq
          cases h
          unfold evCallG at hq
          split at hq
          · cases hq; cases hu
          · cases hq
        split at h
        · rename_i q hq
          cases h
          unfold evCallM at hq
          split at hq
          · split at hq
            · rename_i t l hob
              split at hq
              · split at hq
                · cases hq
                  cases hu
                  exact ⟨_, hob, rfl⟩
                · cases hq
                  cases hu
                  exact ⟨_, hob, rfl⟩
                · cases hq
              · cases hq
            · cases hq
          · split at hq
            · split at hq
              · split at hq
                · split at hq
                  · cases hq; cases hu
                  · cases hq
                · cases hq
              · cases hq
            · cases hq
          · cases hq
        split at h
        · rename_i q hq
          cases h
          unfold evCallB at hq
          split at hq
          · split at hq
            · split at hq
              · split at hq
                · cases hq; cases hu
                · cases hq
              · cases hq
            · cases hq
          · cases hq
        · split at h
          · rename_i q hq
            cases h
            unfold evCallR at hq
            split at hq
            · rename_i id' t l hra
              split at hq
              · cases hq
              · split at hq
                · split at hq
                  · cases hq
                    cases hu
                    exact ⟨_, rowArg_look hra, rfl⟩
                  · cases hq
                · cases hq
            · cases hq
          split at h
          · rename_i q hq
            cases h
            unfold evCallP at hq
            split at hq
            · split at hq
              · split at hq
                · cases hq; cases hu
                · cases hq
              · cases hq
            · cases hq
          · unfold evCall at h
            split at h
            · rename_i xs hxs
              cases hfr : O.isFresh f with
              | true =>
                rw [hfr] at h
                simp only [cond_true] at h
                split at h
                · cases h; cases hu
                · cases h
              | false =>
                rw [hfr] at h
                simp only [cond_false] at h
                split at h
                · cases h; cases hu
                · cases h
            · cases h
      · cases h
    · cases h
  | alloc T =>
    simp only [evOp] at h
    split at h
    · split at h
      · cases h; cases hu
      · cases h
    · cases h
  | box T x =>
    simp only [evOp] at h
    split at h
    · cases h; cases hu
    · cases h
  | nilCheck x =>
    simp only [evOp] at h
    split at h
    · cases h; cases hu
    · cases h; cases hu
    · cases h; cases hu
    · cases h
  | move x => cases h; cases hu
  | assign x => cases h; cases hu
  | pick x y z => obtain ⟨q, hq, rfl⟩ := opt_map h; cases hu
  | build T ps => obtain ⟨q, hq, rfl⟩ := opt_map h; cases hu
  | buildSlice T n ps =>
    simp only [evOp] at h
    split at h
    · rename_i q hq
      cases h
      unfold evBuildEmpty at hq
      split at hq
      · split at hq
        · split at hq
          · cases hq; cases hu
          · cases hq
        · cases hq
      · cases hq
    · obtain ⟨q, hq, rfl⟩ := opt_map h; cases hu
  | load T x => obtain ⟨q, hq, rfl⟩ := opt_map h; cases hu
  | binOp op T x y T' =>
    simp only [evOp] at h
    split at h
    · cases h; cases hu
    · obtain ⟨q, hq, rfl⟩ := opt_map h; cases hu
  | unOp op T x => obtain ⟨q, hq, rfl⟩ := opt_map h; cases hu
  | convert s d x => obtain ⟨q, hq, rfl⟩ := opt_map h; cases hu
  | fieldAddr s x f => obtain ⟨q, hq, rfl⟩ := opt_map h; cases hu
  | field s x f => obtain ⟨q, hq, rfl⟩ := opt_map h; cases hu
  | indexAddr T x i =>
    simp only [evOp] at h
    split at h
    · cases h; cases hu
    · obtain ⟨q, hq, rfl⟩ := opt_map h; cases hu
  | index T x i =>
    simp only [evOp] at h
    split at h
    · cases h; cases hu
    · obtain ⟨q, hq, rfl⟩ := opt_map h; cases hu
  | slice T x l hh m =>
    simp only [evOp] at h
    split at h
    · cases h; cases hu
    · obtain ⟨q, hq, rfl⟩ := opt_map h; cases hu
  | extract x i => obtain ⟨q, hq, rfl⟩ := opt_map h; cases hu
  | _ => cases h

theorem evG_upd {O : Oracle E} {ops : Array Oper} {S : ASt E} {o : Oper} {r : Res E} (h : evG O ops S o = some r) {id : Nat} {ob : AObj E} (hu : r.upd = some (id, ob)) : ∃ o', look S.objs id = some o' ∧ o'.live = true := by
  unfold evG at h
  split at h
  · exact evOp_upd (evG_plain h).1 hu
  · split at h
    · cases h
    · split at h
      · cases h
      · split at h
        · cases h; cases hu
        · cases h

theorem Base.step {w0 : Start} {ro0 : Nat → Nat → Prop} (hb : Base w0 ro0 a w ι ro) {nid : Nat} {r : Res E} {val : Value} (hp : OpPost E w w' ι ι' ro ro' nid r val) (hfresh : ι nid = none) (d : Option Nat) : Base w0 ro0 (a.put d val) w' ι' ro' where
  below := ⟨hp.os.trans hb.below.os, hp.tape.trans hb.below.tape, hp.output.trans hb.below.output, Nat.le_trans hb.below.size hp.size, fun k hk hne => (hp.frame k (Nat.lt_of_lt_of_le hk hb.below.size) (fun id o gh _ hi hblk => by
    rcases (hb.ilt id gh k hi hblk).1 with h | h
    · have h : w0.w.heap.size ≤ k := h; omega
    · exact hne h.symm)).trans (hb.below.block k hk hne)⟩
  rolt := hp.rolt
  ronew := fun k o h => by
    rcases hp.fresh k o h with h | h | ⟨id, o', gh, _, hi, hblk⟩
    · exact hb.ronew k o h
    · exact .inr (.inl (Nat.le_trans hb.below.size h))
    · exact .inr (hb.ilt id gh k hi hblk).1
  ilt := fun id gh k hi hblk => by
    by_cases hid : id = nid
    · subst hid
      obtain ⟨h1, h2⟩ := hp.inew gh k hi hblk
      refine ⟨?_, h1⟩
      rcases h2 with h | ⟨id', o', gh', _, _, hi', hblk'⟩
      · exact .inl (Nat.le_trans hb.below.size h)
      · exact (hb.ilt id' gh' k hi' hblk').1
    · rw [hp.iold id hid] at hi
      obtain ⟨h1, h2⟩ := hb.ilt id gh k hi hblk
      exact ⟨h1, Nat.lt_of_lt_of_le h2 hp.size⟩
  defers := by
    have := hb.defers
    cases d <;> exact this
  keep := fun q hq => by
    obtain ⟨h1, h2⟩ := hb.keep q hq
    refine ⟨fun k o h => ⟨hp.mono k o (h1 k o h).1, (hp.cell k o (h1 k o h).1).trans (h1 k o h).2⟩, fun id gh h => ?_⟩
    have h3 := h2 id gh h
    rw [hp.iold id (fun e => by subst e; rw [hfresh] at h3; cases h3)]
    exact h3

theorem condFree_mem : ∀ (loc : List (Nat × AV E)) (d : Nat), condFree d loc = true → ∀ t gs want u, (t, AVal.cond gs want u) ∈ loc → gs ≠ d
  | [], _, _, t, gs, want, u, h => by cases h
  | (t0, x) :: r, d, hc, t, gs, want, u, h => by
    cases h with
    | head =>
      simp only [condFree, Bool.and_eq_true] at hc
      intro e
      subst e
      simp at hc
    | tail _ h =>
      refine condFree_mem r d ?_ t gs want u h
      cases x <;> simp only [condFree, Bool.and_eq_true] at hc <;> first | exact hc | exact hc.2

theorem put_get {a : Act} {d : Option Nat} {val : Value} {t : Nat} (h : d ≠ some t) : (a.put d val).tmps[t]? = a.tmps[t]? := by
  cases d with
  | none => rfl
  | some d =>
    have : d ≠ t := fun e => h (by rw [e])
    simp [Act.put, Array.getElem?_setIfInBounds_ne this]

theorem put_size {a : Act} {d : Option Nat} {val : Value} : (a.put d val).tmps.size = a.tmps.size := by
  cases d <;> simp [Act.put]

theorem SRep.tm {tm tm' : Array Value} {v : Value} {x : AV E} (h : SRep E w ro ι tm v x) (he : ∀ gs want u, x = .cond gs want u → tm'[gs]? = tm[gs]?) : SRep E w ro ι tm' v x := by
  cases x with
  | cond gs want u =>
    have e := he gs want u rfl
    exact ⟨fun hc => h.1 (by rw [← e]; exact hc), fun hc => h.2 (by rw [← e]; exact hc)⟩
  | _ => exact h

theorem TmOk.step {n : Nat} {loc glob : List (Nat × AV E)} (hsz : a.tmps.size = n) (htm : TmOk E w ro ι a (loc ++ glob)) (hnc : NoCond glob) {d : Option Nat} {x : AV E} {val : Value} (hd : dstOk n d ((0, x) :: loc) = true)
    (hr : ∀ k o, ro k o → ro' k o) (hc : ∀ k o, ro k o → w'.cell? ⟨k, o, none⟩ = w.cell? ⟨k, o, none⟩) (hi : ∀ id gh, ι id = some gh → ι' id = some gh) (hslot : SlotOk E w' ro' ι' a val x) : TmOk E w' ro' ι' (a.put d val) (putL d x loc ++ glob) := by
  have old : ∀ t y, d ≠ some t → look (loc ++ glob) t = some y → ∃ v, (a.put d val).tmps[t]? = some v ∧ SRep E w' ro' ι' (a.put d val).tmps v y := by
    intro t y hne hl
    obtain ⟨v, hv, hs⟩ := htm t y hl
    refine ⟨v, (put_get hne).trans hv, (hs.mono hr hc hi).tm fun gs want u e => ?_⟩
    subst e
    cases d with
    | none => rfl
    | some d =>
      refine put_get fun e => ?_
      cases e
      have hmem := look_mem _ _ _ hl
      rcases List.mem_append.1 hmem with h | h
      · unfold dstOk at hd
        simp only [Bool.and_eq_true] at hd
        exact condFree_mem _ _ hd.2 t gs want u (List.mem_cons_of_mem _ h) rfl
      · have := hnc _ h
        simp [isCond] at this
  intro t y hl
  cases d with
  | none => exact old t y (fun e => by cases e) hl
  | some d =>
    simp only [putL, List.cons_append, look] at hl
    split at hl
    · rename_i hdt
      have hdt := Nat.eq_of_beq_eq_true hdt
      subst hdt
      cases hl
      unfold dstOk at hd
      simp only [Bool.and_eq_true] at hd
      have hlt : d < a.tmps.size := by rw [hsz]; simpa using hd.1
      refine ⟨val, by simp [Act.put, hlt], hslot _ fun gs want u e => ?_⟩
      subst e
      exact put_get fun e => by
        cases e
        exact condFree_mem _ _ hd.2 0 d want u List.mem_cons_self rfl
    · rename_i hdt
      exact old t y (fun e => by cases e; simp at hdt) hl

theorem look_unCond : ∀ (loc : List (Nat × AV E)) (t : Nat) (y : AV E), look (unCond loc) t = some y → ∃ x, look loc t = some x ∧ (y = .any ∨ (y = x ∧ isCond x = false))
  | [], t, y, h => by cases h
  | (t0, x) :: r, t, y, h => by
    unfold unCond at h
    cases hx : isCond x with
    | true =>
      rw [hx] at h
      simp only [cond_true, look] at h ⊢
      split at h
      · rename_i hb; rw [if_pos hb]; cases h; exact ⟨x, rfl, .inl rfl⟩
      · rename_i hb; rw [if_neg hb]; exact look_unCond r t y h
    | false =>
      rw [hx] at h
      simp only [cond_false, look] at h ⊢
      split at h
      · rename_i hb; rw [if_pos hb]; cases h; exact ⟨_, rfl, .inr ⟨rfl, hx⟩⟩
      · rename_i hb; rw [if_neg hb]; exact look_unCond r t y h

theorem noCond_unCond : ∀ (loc : List (Nat × AV E)), NoCond (unCond loc)
  | [] => fun p h => by cases h
  | (t, x) :: r => fun p h => by
    unfold unCond at h
    cases hx : isCond x with
    | true =>
      rw [hx] at h
      cases h with
      | head => rfl
      | tail _ h => exact noCond_unCond r p h
    | false =>
      rw [hx] at h
      cases h with
      | head => exact hx
      | tail _ h => exact noCond_unCond r p h

theorem TmOk.clean {loc glob : List (Nat × AV E)} (htm : TmOk E w ro ι a (loc ++ glob)) : TmOk E w ro ι a (unCond loc ++ glob) := by
  intro t y hl
  rw [look_app] at hl
  cases hu : look (unCond loc) t with
  | none =>
    rw [hu] at hl
    have hnone : look loc t = none := by
      cases hlo : look loc t with
      | none => rfl
      | some x =>
        exfalso
        have : ∀ (loc : List (Nat × AV E)), look loc t = some x → ∀ h : look (unCond loc) t = none, False := by
          intro loc
          induction loc with
          | nil => intro h; cases h
          | cons p r ih =>
            obtain ⟨t0, y0⟩ := p
            intro h1 h2
            unfold unCond at h2
            simp only [look] at h1
            split at h1
            · rename_i hb
              cases hx : isCond y0 <;> rw [hx] at h2 <;> simp [look, hb] at h2
            · rename_i hb
              cases hx : isCond y0 <;> rw [hx] at h2 <;> simp only [cond_true, cond_false, look, if_neg hb] at h2 <;> exact ih h1 h2
        exact this loc hlo hu
    exact htm t y (by rw [look_app, hnone]; exact hl)
  | some z =>
    rw [hu] at hl
    cases hl
    obtain ⟨x, hx, h⟩ := look_unCond loc t y hu
    obtain ⟨v, hv, hs⟩ := htm t x (by rw [look_app, hx])
    refine ⟨v, hv, ?_⟩
    rcases h with rfl | ⟨rfl, hc⟩
    · exact .any _
    · exact hs

theorem look_putO {objs : List (Nat × AObj E)} {nid : Nat} {r : Res E} {id : Nat} {o : AObj E} (h : look (putO objs nid r) id = some o) :
    (r.new = some o ∧ id = nid) ∨ (r.upd = some (id, o) ∧ (id ≠ nid ∨ r.new = none)) ∨ (look objs id = some o ∧ (id ≠ nid ∨ r.new = none) ∧ ∀ o', r.upd ≠ some (id, o')) := by
  unfold putO at h
  have tail : ∀ (_ : look ((match r.upd with | some u => [u] | none => []) ++ objs) id = some o), r.upd = some (id, o) ∨ (look objs id = some o ∧ ∀ o', r.upd ≠ some (id, o')) := by
    clear h
    intro h
    cases hu : r.upd with
    | none => rw [hu] at h; exact .inr ⟨h, fun o' e => by cases e⟩
    | some u =>
      obtain ⟨i, ob⟩ := u
      rw [hu] at h
      simp only [List.cons_append, List.nil_append, look] at h
      by_cases hb : Nat.beq i id = true
      · rw [if_pos hb] at h
        have := Nat.eq_of_beq_eq_true hb
        subst this
        cases h
        exact .inl rfl
      · rw [if_neg hb] at h
        refine .inr ⟨h, fun o' e => ?_⟩
        cases e
        simp at hb
  cases hn : r.new with
  | none =>
    rw [hn] at h
    rcases tail h with h | ⟨h, h'⟩
    · exact .inr (.inl ⟨h, .inr rfl⟩)
    · exact .inr (.inr ⟨h, .inr rfl, h'⟩)
  | some ob =>
    rw [hn] at h
    simp only [List.cons_append, List.nil_append, look] at h
    split at h
    · rename_i hb
      have := Nat.eq_of_beq_eq_true hb
      subst this
      cases h
      exact .inl ⟨rfl, rfl⟩
    · rename_i hb
      have hne : id ≠ nid := fun e => by subst e; simp at hb
      rcases tail h with h | ⟨h, h'⟩
      · exact .inr (.inl ⟨h, .inl hne⟩)
      · exact .inr (.inr ⟨h, .inl hne, h'⟩)
end
end Go.Proofs.YtfoflgciceckoaaGreatDoor.Mir
