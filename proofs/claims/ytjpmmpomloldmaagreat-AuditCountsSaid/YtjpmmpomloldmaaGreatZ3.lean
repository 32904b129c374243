/- Part 3 of a proof: the texts MirO MirP MirQ MirX MirU A1, one behind the other. -/
import Derived.Test.YtjpmmpomloldmaaGreatZ2
import Derived.Test.YtjpmmpomloldmaaGreatRows
namespace Go.Proofs.YtjpmmpomloldmaaGreat.Mir
open Go Go.RowKit
section
variable {P : Program} {E : Env P}
def frz1 (objs : List (Nat × AObj E)) : AV E → AV E
  | .row t n id => match look objs id with
    | some (.row t' l) => .grow t' l id
    | _ => .row t n id
  | v => v
def frzV (objs : List (Nat × AObj E)) : AV E → AV E
  | .agg cs => .agg (cs.map (frz1 objs))
  | .tup cs => .tup (cs.map (frz1 objs))
  | v => frz1 objs v
def frzO (objs : List (Nat × AObj E)) : AObj E → AObj E
  | .row _ _ => .tail true
  | .box cs => .box (cs.map (frz1 objs))
  | o => o
def frzT (objs : List (Nat × AObj E)) : List (Nat × AV E) → List (Nat × AV E)
  | [] => []
  | (t, v) :: r => (t, frzV objs v) :: frzT objs r
def frzOs (objs : List (Nat × AObj E)) : List (Nat × AObj E) → List (Nat × AObj E)
  | [] => []
  | (i, o) :: r => (i, frzO objs o) :: frzOs objs r
def freezeS (S : ASt E) : ASt E := ⟨S.n, frzT S.objs S.tmps, frzOs S.objs S.objs, S.next⟩
structure Hint (E : Env P) where
  live : List (Nat × List Nat) := []
  frz : List Nat := []
  nils : List (Nat × List (Nat × Option Nat × Bool × E.Ty)) := []
  /-- ahead of a region: slots whose whole number is one of 0, .., n - 1, case by case -/
  split : List (Nat × List (Nat × Nat)) := []
  /-- ahead of a region: slots whose box is laid open (from now on it is only read) -/
  opn : List (Nat × List Nat) := []
  /-- of a function that is walked where it is called: how many rounds its loops may go -/
  rounds : Nat := 5
  /-- regions of open order whose last operation comes behind all the others, and is done by itself -/
  lst : List Nat := []
def opn1 (id : Nat) (ds : List (DVal E.Den)) : AV E → AV E
  | .ptr id' off => match Nat.beq id' id with
    | true => .pelt (ds.drop off)
    | false => .ptr id' off
  | v => v
def opnV (id : Nat) (ds : List (DVal E.Den)) : AV E → AV E
  | .agg cs => .agg (cs.map (opn1 id ds))
  | .tup cs => .tup (cs.map (opn1 id ds))
  | v => opn1 id ds v
def opnO (id : Nat) (ds : List (DVal E.Den)) (i : Nat) : AObj E → AObj E
  | .box cs => match Nat.beq i id with
    | true => .dead
    | false => .box (cs.map (opn1 id ds))
  | o => o
def opnT (id : Nat) (ds : List (DVal E.Den)) : List (Nat × AV E) → List (Nat × AV E)
  | [] => []
  | (t, v) :: r => (t, opnV id ds v) :: opnT id ds r
def opnOs (id : Nat) (ds : List (DVal E.Den)) : List (Nat × AObj E) → List (Nat × AObj E)
  | [] => []
  | (i, o) :: r => (i, opnO id ds i o) :: opnOs id ds r
def open1 (t : Nat) (S : ASt E) : ASt E := match look S.tmps t with
  | some (.ptr id _) => match look S.objs id with
    | some (.box cs) => match toDs cs with
      | some ds => ⟨S.n, opnT id ds S.tmps, opnOs id ds S.objs, S.next⟩
      | none => S
    | _ => S
  | _ => S
def openS : List Nat → ASt E → ASt E
  | [], S => S
  | t :: r, S => openS r (open1 t S)
def splitN {R : Type} (k : ASt E → Option R) (S : ASt E) (t : Nat) (kd : IntKind) (i : Int) : Nat → Nat → Option R
  | 0, _ => none
  | m + 1, j => bif i == (j : Int) then k ⟨S.n, (t, .d (.int kd (j : Int))) :: S.tmps, S.objs, S.next⟩ else splitN k S t kd i m (j + 1)
def splitK {R : Type} : List (Nat × Nat) → ASt E → (ASt E → Option R) → Option R
  | [], S, k => k S
  | (t, n) :: r, S, k => match look S.tmps t with
    | some (.d (.int kd i)) => splitN (fun S' => splitK r S' k) S t kd i n 0
    | _ => none
def nilV (g : Bool) (t : E.Ty) (nid : Nat) : AV E := match g with
  | true => .grow t [] nid
  | false => .d (.slice t [])
def nilO (g : Bool) (S : ASt E) : List (Nat × AObj E) := match g with
  | true => (S.next, .tail true) :: S.objs
  | false => S.objs
def nil1 (s : Nat) (off : Option Nat) (g : Bool) (t : E.Ty) (S : ASt E) : ASt E := match look S.tmps s with
  | some v => match off with
    | none => bif isNil v then ⟨S.n, (s, nilV g t S.next) :: S.tmps, nilO g S, S.next + 1⟩ else S
    | some o => match v with
      | .ptr id _ => match look S.objs id with
        | some (.box cs) => match cs[o]? with
          | some u => bif isNil u then ⟨S.n, S.tmps, (id, .box (cs.set o (nilV g t S.next))) :: nilO g S, S.next + 1⟩ else S
          | none => S
        | _ => S
      | _ => S
  | none => S
def nilS : List (Nat × Option Nat × Bool × E.Ty) → ASt E → ASt E
  | [], S => S
  | (s, off, g, t) :: r, S => nilS r (nil1 s off g t S)
def memN : List Nat → Nat → Bool
  | [], _ => false
  | i :: r, j => Nat.beq i j || memN r j
def idxN : List Nat → Nat → Option Nat
  | [], _ => none
  | i :: r, j => if Nat.beq i j then some 0 else (match idxN r j with | some q => some (q + 1) | none => none)
def addN (l : List Nat) (i : Nat) : List Nat := match idxN l i with
  | some _ => l
  | none => l ++ [i]
def addAll (l : List Nat) : List Nat → List Nat
  | [] => l
  | i :: r => addAll (addN l i) r
def idsV : AV E → List Nat
  | .grow _ _ id => [id]
  | .ptr id _ => [id]
  | .row _ _ id => [id]
  | .elt id _ _ => [id]
  | .bsl _ id => [id]
  | .mk _ id => [id]
  | _ => []
def idsVs : List (AV E) → List Nat
  | [] => []
  | v :: r => idsV v ++ idsVs r
def idsW : AV E → List Nat
  | .agg cs => idsVs cs
  | v => idsV v
def idsWs : List (Nat × AV E) → List Nat
  | [] => []
  | (_, v) :: r => idsW v ++ idsWs r
def idsO (objs : List (Nat × AObj E)) : List Nat → List Nat
  | [] => []
  | i :: r => (match look objs i with | some (.box cs) => idsVs cs | _ => []) ++ idsO objs r
def closA : AV E → Bool
  | .d _ => true
  | .st _ _ => true
  | _ => false
def ren1 (ids : List Nat) : AV E → AV E
  | .grow t l id => match idxN ids id with
    | some j => .grow t l j
    | none => .d (.slice t l)
  | .ptr id off => match idxN ids id with
    | some j => .ptr j off
    | none => .any
  | .row t n id => match idxN ids id with
    | some j => .row t n j
    | none => .any
  | .elt id i off => match idxN ids id with
    | some j => .elt j i off
    | none => .any
  | .fn f a b => bif a.all closA && b.all closA then .fn f a b else .any
  | .bsl n id => match idxN ids id with
    | some j => .bsl n j
    | none => .any
  | .mk T id => match idxN ids id with
    | some j => .mk T j
    | none => .any
  | .d c => .d c
  | .st t x => .st t x
  | .pelt cs => .pelt cs
  | _ => .any
def renV (ids : List Nat) : AV E → AV E
  | .agg cs => .agg (cs.map (ren1 ids))
  | v => ren1 ids v
def renO (ids : List Nat) : AObj E → AObj E
  | .box cs => .box (cs.map (ren1 ids))
  | o => o
def plainV (objs : List (Nat × AObj E)) : AV E → AV E
  | .grow t l id => match look objs id with
    | some (.tail true) => .grow t l id
    | _ => .d (.slice t l)
  | v => v
def keepT (S : ASt E) : List Nat → List (Nat × AV E)
  | [] => []
  | t :: r => match look S.tmps t with | some x => (t, plainV S.objs x) :: keepT S r | none => keepT S r
def renT (ids : List Nat) : List (Nat × AV E) → List (Nat × AV E)
  | [] => []
  | (t, v) :: r => (t, renV ids v) :: renT ids r
def renOs (objs : List (Nat × AObj E)) (ids : List Nat) : List Nat → Nat → List (Nat × AObj E)
  | [], _ => []
  | i :: r, j => (j, match look objs i with | some o => renO ids o | none => .dead) :: renOs objs ids r (j + 1)
def headS (live : List Nat) (S : ASt E) : ASt E :=
  let kept := keepT S live
  let ids0 := addAll [] (idsWs kept)
  let ids := addAll ids0 (idsO S.objs ids0)
  ⟨S.n, renT ids kept, renOs S.objs ids ids 0, ids.length⟩
inductive AExit where
  | normal
  | exit (id : Nat)
  | ret
  | goto (l : Nat)
def AExit.toExit : AExit → Exit
  | .normal => .normal
  | .exit id => .exit id
  | .ret => .ret
  | .goto l => .goto l
def nloops : Code → Nat
  | .seq a b => nloops a + nloops b
  | .cond _ a b => nloops a + nloops b
  | .block _ b => nloops b
  | .loop b => nloops b + 1
  | _ => 0
def atN {α : Type} (l : List (Nat × List α)) (i : Nat) : List α := match look l i with
  | some x => x
  | none => []
def headAt (h : Hint E) (i : Nat) (S : ASt E) : ASt E := headS (atN h.live i) (nilS (atN h.nils i) S)
def evReg {R : Type} (O : Oracle E) (ops : Array Oper) (dr : Bool) (S : ASt E) (k : ASt E → Option R) : Option R := match dr with
  | true => evDraw O ops S.n S.tmps S.objs S.next ops.toList [] 0 k
  | false => evSeq O ops S.n S.tmps ops.toList [] S.objs S.next k
def evRegL {R : Type} (b : Bool) (O : Oracle E) (ops : Array Oper) (dr : Bool) (S : ASt E) (k : ASt E → Option R) : Option R := match b, dr with
  | true, true => evLast O ops S k
  | _, _ => evReg O ops dr S k
def seqK {R : Type} (f : ASt E → Option R) (k : AExit → ASt E → Option R) (e : AExit) (S : ASt E) : Option R := match e with
  | .normal => f S
  | .exit id => k (.exit id) S
  | .ret => k .ret S
  | .goto l => k (.goto l) S
def blockK {R : Type} (id : Nat) (k : AExit → ASt E → Option R) (e : AExit) (S : ASt E) : Option R := match e with
  | .normal => k .normal S
  | .exit i => (match Nat.beq i id with | true => k .normal S | false => k (.exit i) S)
  | .ret => k .ret S
  | .goto l => k (.goto l) S
def hasScope : Code → Bool
  | .seq a b => hasScope a || hasScope b
  | .cond _ a b => hasScope a || hasScope b
  | .block _ b => hasScope b
  | .loop b => hasScope b
  | .scope _ => true
  | _ => false
def scopeK {R : Type} (h : Hint E) (G : Nat → ASt E → Option R) (c : Code) (k : AExit → ASt E → Option R) (e : AExit) (S : ASt E) : Option R := match e with
  | .normal => k .normal S
  | .exit id => k (.exit id) S
  | .ret => k .ret S
  | .goto l => (match findLabel c l with | some _ => G (100 + l) (headAt h (100 + l) S) | none => none)
def evCode {R : Type} (O : Oracle E) (h : Hint E) (G : Nat → ASt E → Option R) : Nat → Code → ASt E → (AExit → ASt E → Option R) → Option R
  | _, .skip, S, k => k .normal S
  | _, .region id ops dr, S, k => splitK (atN h.split id) (openS (atN h.opn id) (match memN h.frz id with | true => freezeS S | false => S)) fun S' => evRegL (memN h.lst id) O ops dr S' (k .normal)
  | i, .seq x y, S, k => (match hasScope x && hasScope y with
    | true => none
    | false => evCode O h G i x S (seqK (fun S' => evCode O h G (i + nloops x) y S' k) k))
  | i, .cond c x y, S, k => (match hasScope x || hasScope y with
    | true => none
    | false => match getA S.tmps [] c with
      | .d (.bool b) => bif b then evCode O h G i x S k else evCode O h G (i + nloops x) y S k
      | _ => none)
  | i, .scope c, S, k => (match hasScope c, nloops c with
    | false, 0 => evCode O h G i c S (scopeK h G c k)
    | _, _ => none)
  | _, .label _, S, k => k .normal S
  | _, .goto l, S, k => k (.goto l) S
  | i, .block id body, S, k => evCode O h G i body S (blockK id k)
  | i, .loop _, S, _ => G i (headAt h i S)
  | _, .exit id, S, k => k (.exit id) S
  | _, .ret, S, k => k .ret S
  | _, _, _, _ => none
def ctxK {R : Type} (O : Oracle E) (h : Hint E) (G : Nat → ASt E → Option R) : Nat → Code → Nat → (AExit → ASt E → Option R) → Option (Nat × Code × (AExit → ASt E → Option R))
  | i, .loop b, 0, k => some (i, b, k)
  | i, .loop b, j + 1, k => ctxK O h G (i + 1) b j (seqK (fun S => G i (headAt h i S)) k)
  | i, .seq x y, j, k => match Nat.blt j (nloops x) with
    | true => ctxK O h G i x j (seqK (fun S' => evCode O h G (i + nloops x) y S' k) k)
    | false => ctxK O h G (i + nloops x) y (j - nloops x) k
  | i, .cond _ x y, j, k => match Nat.blt j (nloops x) with
    | true => ctxK O h G i x j k
    | false => ctxK O h G (i + nloops x) y (j - nloops x) k
  | i, .block id b, j, k => ctxK O h G i b j (blockK id k)
  | _, _, _, _ => none
def ctxS {R : Type} (O : Oracle E) (h : Hint E) (G : Nat → ASt E → Option R) : Nat → Code → (AExit → ASt E → Option R) → Option (Code × (AExit → ASt E → Option R))
  | _, .scope c, k => some (c, k)
  | i, .seq x y, k => (match hasScope x, hasScope y with
    | true, false => ctxS O h G i x (seqK (fun S' => evCode O h G (i + nloops x) y S' k) k)
    | false, true => ctxS O h G (i + nloops x) y k
    | _, _ => none)
  | i, .block id b, k => ctxS O h G i b (blockK id k)
  | _, _, _ => none
def segS {R : Type} (O : Oracle E) (h : Hint E) (G : Nat → ASt E → Option R) (c : Code) (l : Nat) (S : ASt E) (k : AExit → ASt E → Option R) : Option R := match ctxS O h G 0 c k with
  | some (sc, k') => (match findLabel sc l with
    | some rest => (match hasScope rest, nloops rest with
      | false, 0 => evCode O h G 0 rest S (scopeK h G sc k')
      | _, _ => none)
    | none => none)
  | none => none
def segC {R : Type} (O : Oracle E) (h : Hint E) (G : Nat → ASt E → Option R) (c : Code) (j : Nat) (S : ASt E) (k : AExit → ASt E → Option R) : Option R := match Nat.ble 100 j with
  | true => (match Nat.ble (nloops c) 100 with
    | true => segS O h G c (j - 100) S k
    | false => none)
  | false => (match hasScope c with
    | true => none
    | false => (match ctxK O h G 0 c j k with
      | some (i, b, k) => evCode O h G (i + 1) b S (seqK (fun S => G i (headAt h i S)) k)
      | none => none))
end
section
variable {P : Program} {E : Env P} {w : World} {ro : Nat → Nat → Prop} {ι : Nat → Option Gh} {S : ASt E} {a : Act} {w0 : Start} {ro0 : Nat → Nat → Prop}
theorem isNil_eq {v : AV E} (h : isNil v = true) : v = .d (.raw (.slice none 0 0)) := by
  unfold isNil at h
  split at h
  · rfl
  · cases h
def nilGh (E : Env P) (t : E.Ty) : Gh := ⟨.slice none 0 0, 0, E.tid t, E.size t, none⟩
theorem nilO_sound (g : Bool) (t : E.Ty) (hg : Gam E w0 ro0 S a w ι ro) : ∃ ι', (∀ id gh, ι id = some gh → ι' id = some gh) ∧ Gam E w0 ro0 ⟨S.n, S.tmps, nilO g S, S.next + 1⟩ a w ι' ro ∧ Rep E w ro ι' (.slice none 0 0) (nilV g t S.next) := by
  cases g with
  | false =>
    exact ⟨ι, fun _ _ h => h, ⟨hg.base, hg.size, hg.tmps, hg.objs, hg.inj, fun id h => hg.fresh id (by have h : S.next + 1 ≤ id := h; omega), fun id o h => by have := hg.ids id o h; show id < S.next + 1; omega⟩, .d _ _ (.nil t none 0)⟩
  | true =>
    have hfresh := hg.fresh S.next (Nat.le_refl _)
    have hext := setGh_ext ι S.next (nilGh E t) hfresh
    have hnew : setGh ι S.next (nilGh E t) S.next = some (nilGh E t) := if_pos rfl
    have hold : ∀ id, id ≠ S.next → setGh ι S.next (nilGh E t) id = ι id := fun id h => if_neg h
    refine ⟨setGh ι S.next (nilGh E t), hext, ⟨⟨hg.base.below, hg.base.rolt, hg.base.ronew, fun id gh k h1 h2 => ?_, hg.base.defers, fun q hq => ⟨(hg.base.keep q hq).1, fun id gh h => hext id gh ((hg.base.keep q hq).2 id gh h)⟩⟩, hg.size, fun t' x hl => ?_, fun id o hl => ?_, ?_, fun id h => ?_, fun id o hl => ?_⟩, ?_⟩
    · by_cases e : id = S.next
      · subst e; rw [hnew] at h1; cases h1; cases h2
      · rw [hold id e] at h1; exact hg.base.ilt id gh k h1 h2
    · obtain ⟨v, hv, hs⟩ := hg.tmps t' x hl
      exact ⟨v, hv, hs.mono (fun _ _ h => h) (fun _ _ _ => rfl) hext⟩
    · simp only [nilO, look] at hl
      split at hl
      · rename_i hb
        have := Nat.eq_of_beq_eq_true hb
        subst this
        cases hl
        intro _
        exact ⟨nilGh E t, [], hnew, .inl ⟨World.ownsRow_nil w 0 _ _, rfl⟩, fun g hg => by cases hg⟩
      · rename_i hb
        have hne : id ≠ S.next := fun e => by subst e; simp at hb
        have h := hg.objs id o hl
        cases o with
        | dead => trivial
        | box cs =>
          obtain ⟨gh, g, vs, ty, h1, h2, hb, h3, h4, h5, h6⟩ := h
          exact ⟨gh, g, vs, ty, hext _ _ h1, h2, hb, h3, h4, fun j v c hv hc => ⟨(h5 j v c hv hc).1, (h5 j v c hv hc).2.mono (fun _ _ h => h) (fun _ _ _ => rfl) hext⟩, h6⟩
        | tail l =>
          intro hl
          obtain ⟨gh, xs, h1, h2⟩ := h hl
          exact ⟨gh, xs, hext _ _ h1, h2⟩
        | row t l =>
          obtain ⟨gh, xs, h1, h2⟩ := h
          exact ⟨gh, xs, hext _ _ h1, h2⟩
    · intro id id' o o' gh gh' k hl hl' l1 l2 i1 i2 b1 b2
      by_cases e : id = S.next
      · subst e; rw [hnew] at i1; cases i1; cases b1
      · by_cases e' : id' = S.next
        · subst e'; rw [hnew] at i2; cases i2; cases b2
        · rw [hold id e] at i1
          rw [hold id' e'] at i2
          simp only [nilO, look] at hl hl'
          rw [if_neg (fun hb => e (Nat.eq_of_beq_eq_true hb).symm)] at hl
          rw [if_neg (fun hb => e' (Nat.eq_of_beq_eq_true hb).symm)] at hl'
          exact hg.inj id id' o o' gh gh' k hl hl' l1 l2 i1 i2 b1 b2
    · have h : S.next + 1 ≤ id := h
      rw [hold id (by omega)]
      exact hg.fresh id (by omega)
    · simp only [nilO, look] at hl
      show id < S.next + 1
      split at hl
      · rename_i hb
        have := Nat.eq_of_beq_eq_true hb
        omega
      · have := hg.ids id o hl; omega
    · exact .grow (nilGh E t) t [] S.next hnew rfl rfl rfl (.nil t none 0)
theorem nilV_cond {g : Bool} {t : E.Ty} {i : Nat} : isCond (nilV (E := E) g t i) = false := by cases g <;> rfl
theorem nil1_sound (s : Nat) (off : Option Nat) (g : Bool) (t : E.Ty) (hnc : NoCond S.tmps) (hg : Gam E w0 ro0 S a w ι ro) : ∃ ι', NoCond (nil1 s off g t S).tmps ∧ Gam E w0 ro0 (nil1 s off g t S) a w ι' ro ∧ (nil1 s off g t S).n = S.n := by
  have same : ∃ ι', NoCond S.tmps ∧ Gam E w0 ro0 S a w ι' ro ∧ S.n = S.n := ⟨ι, hnc, hg, rfl⟩
  unfold nil1
  split
  · rename_i v hv
    split
    · cases hn : isNil v with
      | false => exact same
      | true =>
        simp only [cond_true]
        obtain rfl := isNil_eq hn
        obtain ⟨ι', hext, hg', hr⟩ := nilO_sound g t hg
        obtain ⟨u, hu, hs⟩ := hg.tmps s _ hv
        have hu' : u = .slice none 0 0 := Rep.raw_inv hs
        subst hu'
        refine ⟨ι', fun p hp => ?_, ⟨hg'.base, hg'.size, fun t' x hl => ?_, hg'.objs, hg'.inj, hg'.fresh, hg'.ids⟩, trivial⟩
        · cases hp with
          | head => exact nilV_cond
          | tail _ hp => exact hnc p hp
        · simp only [look] at hl
          split at hl
          · rename_i hb
            have := Nat.eq_of_beq_eq_true hb
            subst this
            cases hl
            refine ⟨_, hu, ?_⟩
            have hc := nilV_cond (E := E) (g := g) (t := t) (i := S.next)
            generalize nilV g t S.next = y at hr hc
            cases y <;> first | exact hr | cases hc
          · exact hg'.tmps t' x hl
    · rename_i o
      split
      · rename_i id off'
        split
        · rename_i cs hob
          split
          · rename_i u hu
            cases hn : isNil u with
            | false => exact same
            | true =>
              simp only [cond_true]
              obtain rfl := isNil_eq hn
              obtain ⟨ι', hext, hg', hr⟩ := nilO_sound g t hg
              have hlt := hg.ids id _ hob
              have hob' : look (nilO g S) id = some (.box cs) := by
                cases g with
                | false => exact hob
                | true => simp only [nilO, look]; rw [if_neg (fun hb => by have := Nat.eq_of_beq_eq_true hb; omega)]; exact hob
              refine ⟨ι', hnc, ⟨hg'.base, hg'.size, hg'.tmps, fun id' o' hl => ?_, ?_, hg'.fresh, fun id' o' hl => ?_⟩, trivial⟩
              · simp only [look] at hl
                split at hl
                · rename_i hb
                  have := Nat.eq_of_beq_eq_true hb
                  subst this
                  cases hl
                  obtain ⟨gh, g', vs, ty, h1, h2, hb, h3, h4, h5, h6⟩ := hg'.objs id _ hob'
                  refine ⟨gh, g', vs, ty, h1, h2, hb, h3, by simp [h4], fun j v c hv hc => ?_, h6⟩
                  have hjl : j < cs.length := by have := (List.getElem?_eq_some_iff.1 hc).1; simpa using this
                  have hcj := List.getElem?_eq_getElem hjl
                  have h5j := h5 j v _ hv hcj
                  refine ⟨h5j.1, ?_⟩
                  by_cases hjo : j = o
                  · subst hjo
                    rw [List.getElem?_set_self hjl] at hc
                    cases hc
                    have h5u := (h5 j v _ hv hu).2
                    have : v = .slice none 0 0 := Rep.raw_inv h5u
                    subst this
                    exact hr
                  · rw [List.getElem?_set_ne (fun e => hjo e.symm)] at hc
                    exact (h5 j v c hv hc).2
                · exact hg'.objs id' o' hl
              · intro i1 i2 o1 o2 gh gh' k hl hl' l1 l2 e1 e2 b1 b2
                have lift : ∀ i ob, look ((id, AObj.box (cs.set o (nilV g t S.next))) :: nilO g S) i = some ob → ob.live = true → ∃ ob', look (nilO g S) i = some ob' ∧ ob'.live = true := by
                  intro i ob h hl
                  simp only [look] at h
                  split at h
                  · rename_i hb
                    have := Nat.eq_of_beq_eq_true hb
                    subst this
                    exact ⟨_, hob', rfl⟩
                  · exact ⟨ob, h, hl⟩
                obtain ⟨q1, g1, g2⟩ := lift i1 o1 hl l1
                obtain ⟨q2, g3, g4⟩ := lift i2 o2 hl' l2
                exact hg'.inj i1 i2 q1 q2 gh gh' k g1 g3 g2 g4 e1 e2 b1 b2
              · simp only [look] at hl
                split at hl
                · rename_i hb
                  have := Nat.eq_of_beq_eq_true hb
                  subst this
                  show id < S.next + 1
                  omega
                · exact hg'.ids id' o' hl
          · exact same
        · exact same
      · exact same
  · exact same
theorem nilS_sound : ∀ (l : List (Nat × Option Nat × Bool × E.Ty)) (S : ASt E) (ι : Nat → Option Gh), NoCond S.tmps → Gam E w0 ro0 S a w ι ro → ∃ ι', NoCond (nilS l S).tmps ∧ Gam E w0 ro0 (nilS l S) a w ι' ro ∧ (nilS l S).n = S.n
  | [], S, ι, hnc, hg => ⟨ι, hnc, hg, rfl⟩
  | (s, off, g, t) :: r, S, ι, hnc, hg => by
    obtain ⟨ι1, h1, h2, h3⟩ := nil1_sound s off g t hnc hg
    obtain ⟨ι2, h4, h5, h6⟩ := nilS_sound r (nil1 s off g t S) ι1 h1 h2
    exact ⟨ι2, h4, h5, h6.trans h3⟩
theorem look_frzT {objs : List (Nat × AObj E)} : ∀ {l : List (Nat × AV E)} {t : Nat} {y : AV E}, look (frzT objs l) t = some y → ∃ x, look l t = some x ∧ y = frzV objs x
  | [], _, _, h => by cases h
  | (u, x) :: r, t, y, h => by
    simp only [frzT, look] at h ⊢
    split at h
    · rename_i hb; rw [if_pos hb]; cases h; exact ⟨x, rfl, rfl⟩
    · rename_i hb; rw [if_neg hb]; exact look_frzT h
theorem look_frzOs {objs : List (Nat × AObj E)} : ∀ {l : List (Nat × AObj E)} {t : Nat} {y : AObj E}, look (frzOs objs l) t = some y → ∃ x, look l t = some x ∧ y = frzO objs x
  | [], _, _, h => by cases h
  | (u, x) :: r, t, y, h => by
    simp only [frzOs, look] at h ⊢
    split at h
    · rename_i hb; rw [if_pos hb]; cases h; exact ⟨x, rfl, rfl⟩
    · rename_i hb; rw [if_neg hb]; exact look_frzOs h
theorem frz1_cond {objs : List (Nat × AObj E)} {x : AV E} : isCond (frz1 objs x) = isCond x := by
  cases x <;> try rfl
  rename_i t n id
  show isCond (match look objs id with | some (.row t' l) => .grow t' l id | _ => .row t n id) = false
  split <;> rfl
theorem frzV_cond {objs : List (Nat × AObj E)} {x : AV E} : isCond (frzV objs x) = isCond x := by
  have h := frz1_cond (objs := objs) (x := x)
  cases x <;> first | rfl | exact h
theorem noCond_frzT {objs : List (Nat × AObj E)} : ∀ {l : List (Nat × AV E)}, NoCond l → NoCond (frzT objs l)
  | [], _ => fun p h => by cases h
  | (t, x) :: r, hn => fun p h => by
    cases h with
    | head => exact frzV_cond.trans (hn (t, x) List.mem_cons_self)
    | tail _ h => exact noCond_frzT (fun p h => hn p (List.mem_cons_of_mem _ h)) p h
def frzRo (objs : List (Nat × AObj E)) (ι : Nat → Option Gh) (ro : Nat → Nat → Prop) : Nat → Nat → Prop := fun k o =>
  ro k o ∨ ∃ id t l gh, look objs id = some (.row t l) ∧ ι id = some gh ∧ gh.blk = some k ∧ o < gh.n * gh.sz
theorem freezeS_sound (hnc : NoCond S.tmps) (hg : Gam E w0 ro0 S a w ι ro) : NoCond (freezeS S).tmps ∧ Gam E w0 ro0 (freezeS S) a w ι (frzRo S.objs ι ro) := by
  have hro : ∀ k o, ro k o → frzRo S.objs ι ro k o := fun _ _ h => .inl h
  have one : ∀ (v : Value) (x : AV E), Rep E w ro ι v x → Rep E w (frzRo S.objs ι ro) ι v (frz1 S.objs x) := by
    intro v x h
    have hm := h.mono (w' := w) hro (fun _ _ _ => rfl) (fun _ _ h => h)
    cases h with
    | row gh t id ad cap h1 h2 h3 h4 h5 =>
      show Rep E w _ ι gh.v (match look S.objs id with | some (.row t' l) => .grow t' l id | _ => .row t gh.n id)
      split
      · rename_i t' l hob
        obtain ⟨gh', xs, hi', hn, hge, hgs, hown, hrow, hnro⟩ := hg.objs id _ hob
        rw [h1] at hi'
        cases hi'
        refine .grow gh t' l id h1 hn hge hgs ?_
        have hown' := hown
        unfold OwnT at hown'
        rw [hn, hge, hgs] at hown'
        refine slice_of_rowD hown' (fun g o hb ho => .inr ⟨id, t', l, gh, hob, h1, hb, by rw [hn, hgs]; exact ho⟩) (hrow.mono hro (fun _ _ _ => rfl))
      · exact hm
    | _ => exact hm
  have many : ∀ (vs : Array Value) (cs : List (AV E)), (∀ (j : Nat) v c, vs[j]? = some v → cs[j]? = some c → Rep E w ro ι v c) → ∀ (j : Nat) v c, vs[j]? = some v → (cs.map (frz1 S.objs))[j]? = some c → Rep E w (frzRo S.objs ι ro) ι v c := by
    intro vs cs h j v c hv hc
    rw [List.getElem?_map] at hc
    cases hx : cs[j]? with
    | none => rw [hx] at hc; cases hc
    | some y => rw [hx] at hc; cases hc; exact one v y (h j v y hv hx)
  have all : ∀ (v : Value) (x : AV E), Rep E w ro ι v x → Rep E w (frzRo S.objs ι ro) ι v (frzV S.objs x) := by
    intro v x h
    have h1 := one v x h
    cases h with
    | agg vs cs hs hi => exact .agg vs _ (by simp [hs]) (many vs cs hi)
    | tup vs cs hs hi => exact .tup vs _ (by simp [hs]) (many vs cs hi)
    | _ => exact h1
  have blkne : ∀ id ob, look S.objs id = some ob → ob.live = true → ∀ gh k, ι id = some gh → gh.blk = some k → ∀ id' t l gh', look S.objs id' = some (.row t l) → ι id' = some gh' → gh'.blk = some k → id = id' :=
    fun id ob h1 h2 gh k h3 h4 id' t l gh' h5 h6 h7 => hg.inj id id' ob _ gh gh' k h1 h5 h2 rfl h3 h6 h4 h7
  refine ⟨noCond_frzT hnc, ⟨hg.base.below, fun k o h => ?_, fun k o h => ?_, hg.base.ilt, hg.base.defers, fun q hq => ⟨fun k o h => ⟨.inl ((hg.base.keep q hq).1 k o h).1, ((hg.base.keep q hq).1 k o h).2⟩, (hg.base.keep q hq).2⟩⟩, hg.size, fun t y hl => ?_, fun id o hl => ?_, ?_, hg.fresh, fun id o hl => ?_⟩
  · rcases h with h | ⟨id, t, l, gh, _, hi, hb, _⟩
    · exact hg.base.rolt k o h
    · exact (hg.base.ilt id gh k hi hb).2
  · rcases h with h | ⟨id, t, l, gh, _, hi, hb, _⟩
    · exact hg.base.ronew k o h
    · exact .inr (hg.base.ilt id gh k hi hb).1
  · obtain ⟨x, hx, rfl⟩ := look_frzT hl
    obtain ⟨v, hv, hs⟩ := hg.tmps t x hx
    have hc : isCond x = false := hnc _ (look_mem _ _ _ hx)
    have hr : Rep E w ro ι v x := by cases x <;> first | exact hs | cases hc
    refine ⟨v, hv, ?_⟩
    have h2 := all v x hr
    have h3 : isCond (frzV S.objs x) = false := frzV_cond.trans hc
    generalize frzV S.objs x = y at h2 h3
    cases y <;> first | exact h2 | cases h3
  · obtain ⟨o', ho', rfl⟩ := look_frzOs hl
    have h := hg.objs id o' ho'
    cases o' with
    | dead => trivial
    | box cs =>
      obtain ⟨gh, g, vs, ty, h1, h2, hb, h3, h4, h5, h6⟩ := h
      refine ⟨gh, g, vs, ty, h1, h2, hb, h3, by simp [h4], fun j v c hv hc => ⟨?_, many vs cs (fun j v c hv hc => (h5 j v c hv hc).2) j v c hv hc⟩, fun o hr => ?_, h6.2⟩
      · have hj : j < cs.length := by have := (List.getElem?_eq_some_iff.1 hc).1; simpa using this
        exact (h5 j v _ hv (List.getElem?_eq_getElem hj)).1
      · rcases hr with hr | ⟨id', t, l, gh', hob', hi', hb', _⟩
        · exact h6.1 o hr
        · have := blkne id _ ho' rfl gh g h1 hb id' t l gh' hob' hi' hb'
          subst this
          rw [ho'] at hob'; cases hob'
    | tail live =>
      intro hlive
      obtain ⟨gh, xs, h1, h2, h3⟩ := h hlive
      refine ⟨gh, xs, h1, h2, fun g hb o ho hr => ?_⟩
      rcases hr with hr | ⟨id', t, l, gh', hob', hi', hb', _⟩
      · exact h3 g hb o ho hr
      · have := blkne id _ ho' hlive gh g h1 hb id' t l gh' hob' hi' hb'
        subst this
        rw [ho'] at hob'; cases hob'
    | row t l =>
      intro _
      obtain ⟨gh, xs, h1, hn, hge, hgs, hown, hrow, hnro⟩ := h
      refine ⟨gh, xs, h1, hown, fun g hb o ho hr => ?_⟩
      rcases hr with hr | ⟨id', t', l', gh', hob', hi', hb', ho''⟩
      · exact hnro g hb o hr
      · have := blkne id _ ho' rfl gh g h1 hb id' t' l' gh' hob' hi' hb'
        subst this
        rw [h1] at hi'
        cases hi'
        omega
  · intro id id' o o' gh gh' k hl hl' l1 l2 i1 i2 b1 b2
    obtain ⟨q, hq, rfl⟩ := look_frzOs hl
    obtain ⟨q', hq', rfl⟩ := look_frzOs hl'
    have e1 : q.live = true := by cases q <;> first | exact l1 | rfl
    have e2 : q'.live = true := by cases q' <;> first | exact l2 | rfl
    exact hg.inj id id' q q' gh gh' k hq hq' e1 e2 i1 i2 b1 b2
  · obtain ⟨q, hq, rfl⟩ := look_frzOs hl
    exact hg.ids id q hq
theorem opn1_cond {id : Nat} {ds : List (DVal E.Den)} {x : AV E} : isCond (opn1 id ds x) = isCond x := by
  cases x <;> try rfl
  rename_i id' off
  show isCond (match Nat.beq id' id with | true => .pelt (ds.drop off) | false => .ptr id' off) = false
  split <;> rfl
theorem opnV_cond {id : Nat} {ds : List (DVal E.Den)} {x : AV E} : isCond (opnV id ds x) = isCond x := by
  have h := opn1_cond (id := id) (ds := ds) (x := x)
  cases x <;> first | rfl | exact h
theorem noCond_opnT {id : Nat} {ds : List (DVal E.Den)} : ∀ {l : List (Nat × AV E)}, NoCond l → NoCond (opnT id ds l)
  | [], _ => fun p h => by cases h
  | (t, x) :: r, hn => fun p h => by
    cases h with
    | head => exact opnV_cond.trans (hn (t, x) List.mem_cons_self)
    | tail _ h => exact noCond_opnT (fun p h => hn p (List.mem_cons_of_mem _ h)) p h
theorem look_opnT {id : Nat} {ds : List (DVal E.Den)} : ∀ {l : List (Nat × AV E)} {t : Nat} {y : AV E}, look (opnT id ds l) t = some y → ∃ x, look l t = some x ∧ y = opnV id ds x
  | [], _, _, h => by cases h
  | (u, x) :: r, t, y, h => by
    simp only [opnT, look] at h ⊢
    split at h
    · rename_i hb; rw [if_pos hb]; cases h; exact ⟨x, rfl, rfl⟩
    · rename_i hb; rw [if_neg hb]; exact look_opnT h
theorem look_opnOs {id : Nat} {ds : List (DVal E.Den)} : ∀ {l : List (Nat × AObj E)} {t : Nat} {y : AObj E}, look (opnOs id ds l) t = some y → ∃ x, look l t = some x ∧ y = opnO id ds t x
  | [], _, _, h => by cases h
  | (u, x) :: r, t, y, h => by
    simp only [opnOs, look] at h ⊢
    split at h
    · rename_i hb
      rw [if_pos hb]
      cases h
      rw [Nat.eq_of_beq_eq_true hb]
      exact ⟨x, rfl, rfl⟩
    · rename_i hb; rw [if_neg hb]; exact look_opnOs h
theorem open1_sound (t : Nat) (hnc : NoCond S.tmps) (hg : Gam E w0 ro0 S a w ι ro) : ∃ ro', NoCond (open1 t S).tmps ∧ Gam E w0 ro0 (open1 t S) a w ι ro' ∧ (open1 t S).n = S.n := by
  have same : ∃ ro', NoCond S.tmps ∧ Gam E w0 ro0 S a w ι ro' ∧ S.n = S.n := ⟨ro, hnc, hg, rfl⟩
  unfold open1
  split
  · rename_i id off0 hv
    split
    · rename_i cs hob
      split
      · rename_i ds hds
        obtain ⟨gh, g, vs, ty, h1, h2, hb, h3, h4, h5, h6⟩ := hg.objs id _ hob
        have hlt := (hg.base.ilt id gh g h1 hb)
        have hdl := toDs_len hds
        let ro' : Nat → Nat → Prop := fun k o => ro k o ∨ (k = g ∧ o < cs.length)
        have hro : ∀ k o, ro k o → ro' k o := fun _ _ h => .inl h
        have one : ∀ (v : Value) (x : AV E), Rep E w ro ι v x → Rep E w ro' ι v (opn1 id ds x) := by
          intro v x h
          have hm := h.mono (w' := w) hro (fun _ _ _ => rfl) (fun _ _ h => h)
          cases h with
          | ptr gh' g' id' off i1 i2 =>
            show Rep E w ro' ι _ (match Nat.beq id' id with | true => .pelt (ds.drop off) | false => .ptr id' off)
            split
            · rename_i hbq
              have := Nat.eq_of_beq_eq_true hbq
              subst this
              rw [h1] at i1
              cases i1
              rw [h2] at i2
              cases i2
              refine .pelt g off (fun j => vs.getD (off + j) undef) (ds.drop off) (fun j c hc => ?_) (fun j c hc => ?_)
              · rw [List.getElem?_drop] at hc
                have hj : off + j < cs.length := by rw [← hdl]; exact (List.getElem?_eq_some_iff.1 hc).1
                have hjv : off + j < vs.size := by omega
                refine ⟨.inr ⟨rfl, hj⟩, ?_⟩
                simp [World.cell?, h3, hjv, Array.getD]
              · rw [List.getElem?_drop] at hc
                have hj : off + j < cs.length := by rw [← hdl]; exact (List.getElem?_eq_some_iff.1 hc).1
                have hjv : off + j < vs.size := by omega
                have hvj : vs[off + j]? = some vs[off + j] := Array.getElem?_eq_getElem hjv
                have hcj := List.getElem?_eq_getElem hj
                have hr := toD_rep (h5 _ _ _ hvj hcj).2 (toDs_at hds _ _ _ hcj hc)
                have e : vs.getD (off + j) undef = vs[off + j] := by simp [Array.getD, hjv]
                rw [e]
                exact hr.mono hro (fun _ _ _ => rfl)
            · exact hm
          | _ => exact hm
        have many : ∀ (vs : Array Value) (cs : List (AV E)), (∀ (j : Nat) v c, vs[j]? = some v → cs[j]? = some c → Rep E w ro ι v c) → ∀ (j : Nat) v c, vs[j]? = some v → (cs.map (opn1 id ds))[j]? = some c → Rep E w ro' ι v c := by
          intro vs cs h j v c hv hc
          rw [List.getElem?_map] at hc
          cases hx : cs[j]? with
          | none => rw [hx] at hc; cases hc
          | some y => rw [hx] at hc; cases hc; exact one v y (h j v y hv hx)
        have all : ∀ (v : Value) (x : AV E), Rep E w ro ι v x → Rep E w ro' ι v (opnV id ds x) := by
          intro v x h
          have h1 := one v x h
          cases h with
          | agg vs cs hs hi => exact .agg vs _ (by simp [hs]) (many vs cs hi)
          | tup vs cs hs hi => exact .tup vs _ (by simp [hs]) (many vs cs hi)
          | _ => exact h1
        have other : ∀ id' ob gh' g', look S.objs id' = some ob → ob.live = true → ι id' = some gh' → gh'.blk = some g' → id' ≠ id → g' ≠ g := by
          intro id' ob gh' g' q1 q2 q3 q4 hne e
          subst e
          exact hne (hg.inj id' id ob _ gh' gh g' q1 hob q2 rfl q3 h1 q4 hb)
        refine ⟨ro', noCond_opnT hnc, ⟨⟨hg.base.below, fun k o h => ?_, fun k o h => ?_, hg.base.ilt, hg.base.defers, fun q hq => ⟨fun k o h => ⟨.inl ((hg.base.keep q hq).1 k o h).1, ((hg.base.keep q hq).1 k o h).2⟩, (hg.base.keep q hq).2⟩⟩, hg.size, fun t y hl => ?_, fun id' o hl => ?_, ?_, hg.fresh, fun id' o hl => ?_⟩, rfl⟩
        · rcases h with h | ⟨rfl, _⟩
          · exact hg.base.rolt k o h
          · exact hlt.2
        · rcases h with h | ⟨rfl, _⟩
          · exact hg.base.ronew k o h
          · exact .inr hlt.1
        · obtain ⟨x, hx, rfl⟩ := look_opnT hl
          obtain ⟨v, hv, hs⟩ := hg.tmps t x hx
          have hc : isCond x = false := hnc _ (look_mem _ _ _ hx)
          have hr : Rep E w ro ι v x := by cases x <;> first | exact hs | cases hc
          refine ⟨v, hv, ?_⟩
          have h2 := all v x hr
          have h3 : isCond (opnV id ds x) = false := opnV_cond.trans hc
          generalize opnV id ds x = y at h2 h3
          cases y <;> first | exact h2 | cases h3
        · obtain ⟨o', ho', rfl⟩ := look_opnOs hl
          have h := hg.objs id' o' ho'
          cases o' with
          | dead => trivial
          | box cs' =>
            show ObjOk E w ro' ι id' (match Nat.beq id' id with | true => .dead | false => .box (cs'.map (opn1 id ds)))
            split
            · trivial
            · rename_i hbq
              have hne : id' ≠ id := fun e => by subst e; simp at hbq
              obtain ⟨gh', g', vs', ty', q1, q2, qb, q3, q4, q5, q6⟩ := h
              refine ⟨gh', g', vs', ty', q1, q2, qb, q3, by simp [q4], fun j v c hv hc => ⟨?_, many vs' cs' (fun j v c hv hc => (q5 j v c hv hc).2) j v c hv hc⟩, fun o hr => ?_, q6.2⟩
              · have hj : j < cs'.length := by have := (List.getElem?_eq_some_iff.1 hc).1; simpa using this
                exact (q5 j v _ hv (List.getElem?_eq_getElem hj)).1
              · rcases hr with hr | ⟨hr, _⟩
                · exact q6.1 o hr
                · exact other id' _ gh' g' ho' rfl q1 qb hne hr
          | tail live =>
            intro hlive
            obtain ⟨gh', xs, q1, q2, q3⟩ := h hlive
            have hne : id' ≠ id := fun e => by subst e; rw [hob] at ho'; cases ho'
            refine ⟨gh', xs, q1, q2, fun g' hb' o ho hr => ?_⟩
            rcases hr with hr | ⟨hr, _⟩
            · exact q3 g' hb' o ho hr
            · exact other id' _ gh' g' ho' hlive q1 hb' hne hr
          | row t l =>
            obtain ⟨gh', xs, q1, hn, hge, hgs, hown, hrow, hnro⟩ := h
            have hne : id' ≠ id := fun e => by subst e; rw [hob] at ho'; cases ho'
            refine ⟨gh', xs, q1, hn, hge, hgs, hown, hrow.mono hro (fun _ _ _ => rfl), fun g' hb' o hr => ?_⟩
            rcases hr with hr | ⟨hr, _⟩
            · exact hnro g' hb' o hr
            · exact other id' _ gh' g' ho' rfl q1 hb' hne hr
        · intro i1 i2 o o' gh1 gh2 k hl hl' l1 l2 e1 e2 b1 b2
          obtain ⟨q, hq, rfl⟩ := look_opnOs hl
          obtain ⟨q', hq', rfl⟩ := look_opnOs hl'
          have lv : ∀ i (q : AObj E), (opnO id ds i q).live = true → q.live = true := by
            intro i q h
            cases q <;> first | exact h | rfl
          exact hg.inj i1 i2 q q' gh1 gh2 k hq hq' (lv _ _ l1) (lv _ _ l2) e1 e2 b1 b2
        · obtain ⟨q, hq, rfl⟩ := look_opnOs hl
          exact hg.ids id' q hq
      · exact same
    · exact same
  · exact same
theorem openS_sound : ∀ (l : List Nat) (S : ASt E) (ro : Nat → Nat → Prop), NoCond S.tmps → Gam E w0 ro0 S a w ι ro → ∃ ro', NoCond (openS l S).tmps ∧ Gam E w0 ro0 (openS l S) a w ι ro' ∧ (openS l S).n = S.n
  | [], S, ro, hnc, hg => ⟨ro, hnc, hg, rfl⟩
  | t :: r, S, ro, hnc, hg => by
    obtain ⟨ro1, h1, h2, h3⟩ := open1_sound t hnc hg
    obtain ⟨ro2, h4, h5, h6⟩ := openS_sound r (open1 t S) ro1 h1 h2
    exact ⟨ro2, h4, h5, h6.trans h3⟩
theorem splitN_sound {R : Type} {k : ASt E → Option R} {rr : R} {t : Nat} {kd : IntKind} {i : Int} (hnc : NoCond S.tmps) (hg : Gam E w0 ro0 S a w ι ro) (hl : look S.tmps t = some (.d (.int kd i))) :
    ∀ (m j : Nat), splitN k S t kd i m j = some rr → ∃ S', NoCond S'.tmps ∧ Gam E w0 ro0 S' a w ι ro ∧ S'.n = S.n ∧ k S' = some rr
  | 0, _, h => by cases h
  | m + 1, j, h => by
    unfold splitN at h
    cases hb : i == (j : Int) with
    | false => rw [hb] at h; exact splitN_sound hnc hg hl m (j + 1) h
    | true =>
      rw [hb] at h
      have e : i = (j : Int) := by simpa using hb
      subst e
      refine ⟨⟨S.n, (t, .d (.int kd (j : Int))) :: S.tmps, S.objs, S.next⟩, fun p hp => ?_, ⟨hg.base, hg.size, fun t' x hl' => ?_, hg.objs, hg.inj, hg.fresh, hg.ids⟩, rfl, h⟩
      · cases hp with
        | head => rfl
        | tail _ hp => exact hnc p hp
      · simp only [look] at hl'
        split at hl'
        · rename_i hb
          have := Nat.eq_of_beq_eq_true hb
          subst this
          cases hl'
          exact hg.tmps _ _ hl
        · exact hg.tmps t' x hl'
theorem splitK_sound {R : Type} {k : ASt E → Option R} {rr : R} : ∀ (l : List (Nat × Nat)) (S : ASt E), NoCond S.tmps → Gam E w0 ro0 S a w ι ro → splitK l S k = some rr → ∃ S', NoCond S'.tmps ∧ Gam E w0 ro0 S' a w ι ro ∧ S'.n = S.n ∧ k S' = some rr
  | [], S, hnc, hg, h => ⟨S, hnc, hg, rfl, h⟩
  | (t, n) :: r, S, hnc, hg, h => by
    unfold splitK at h
    split at h
    · rename_i kd i hl
      obtain ⟨S1, h1, h2, h3, h4⟩ := splitN_sound hnc hg hl n 0 h
      obtain ⟨S2, h5, h6, h7, h8⟩ := splitK_sound r S1 h1 h2 h4
      exact ⟨S2, h5, h6, h7.trans h3, h8⟩
    · cases h
theorem idxN_get : ∀ {l : List Nat} {i j : Nat}, idxN l i = some j → l[j]? = some i
  | [], _, _, h => by cases h
  | x :: r, i, j, h => by
    unfold idxN at h
    split at h
    · rename_i hb
      cases h
      simp [Nat.eq_of_beq_eq_true hb]
    · split at h
      · rename_i q hq
        cases h
        simpa using idxN_get hq
      · cases h
theorem idxN_none : ∀ {l : List Nat} {i : Nat}, idxN l i = none → i ∉ l
  | [], _, _ => by simp
  | x :: r, i, h => by
    unfold idxN at h
    split at h
    · cases h
    · rename_i hb
      split at h
      · cases h
      · rename_i hq
        have := idxN_none hq
        intro hm
        cases hm with
        | head => simp at hb
        | tail _ hm => exact this hm
theorem addN_nodup {l : List Nat} {i : Nat} (h : l.Nodup) : (addN l i).Nodup := by
  unfold addN
  split
  · exact h
  · rename_i hn
    rw [List.nodup_append]
    refine ⟨h, by simp, fun x hx y hy e => ?_⟩
    simp at hy
    subst hy; subst e
    exact idxN_none hn hx
theorem addAll_nodup : ∀ {m l : List Nat}, l.Nodup → (addAll l m).Nodup
  | [], _, h => h
  | _ :: r, _, h => addAll_nodup (m := r) (addN_nodup h)
theorem closA_rep {ι' : Nat → Option Gh} {v : Value} {x : AV E} (hc : closA x = true) (h : Rep E w ro ι v x) : Rep E w ro ι' v x := by
  cases h with
  | d _ c h => exact .d _ c h
  | st vs t x ha h => exact .st vs t x ha h
  | _ => cases hc
theorem ren1_rep {ids : List Nat} {v : Value} {x : AV E} (h : Rep E w ro ι v x) : Rep E w ro (fun j => (ids[j]?).bind ι) v (ren1 ids x) := by
  cases h with
  | any v => exact .any _
  | d _ c h => exact .d _ c h
  | st vs t x ha h => exact .st vs t x ha h
  | agg => exact .any _
  | tup => exact .any _
  | pelt g off f cs h1 h2 => exact .pelt g off f cs h1 h2
  | grow gh t l id h1 h2 h3 h4 h5 =>
    show Rep E w ro _ gh.v (match idxN ids id with | some j => .grow t l j | none => .d (.slice t l))
    cases hj : idxN ids id with
    | some j => exact .grow gh t l j (show (ids[j]?).bind ι = some gh by rw [idxN_get hj]; exact h1) h2 h3 h4 h5
    | none => exact .d _ _ h5
  | ptr gh g id off h1 h2 =>
    show Rep E w ro _ _ (match idxN ids id with | some j => .ptr j off | none => .any)
    cases hj : idxN ids id with
    | some j => exact .ptr gh g j off (show (ids[j]?).bind ι = some gh by rw [idxN_get hj]; exact h1) h2
    | none => exact .any _
  | row gh t id ad cap h1 h2 h3 h4 h5 =>
    show Rep E w ro _ gh.v (match idxN ids id with | some j => .row t gh.n j | none => .any)
    cases hj : idxN ids id with
    | some j => exact .row gh t j ad cap (show (ids[j]?).bind ι = some gh by rw [idxN_get hj]; exact h1) h2 h3 h4 h5
    | none => exact .any _
  | elt gh g id i off cap h1 h2 h3 =>
    show Rep E w ro _ _ (match idxN ids id with | some j => .elt j i off | none => .any)
    cases hj : idxN ids id with
    | some j => exact .elt gh g j i off cap (show (ids[j]?).bind ι = some gh by rw [idxN_get hj]; exact h1) h2 h3
    | none => exact .any _
  | bsl gh g id n cap h1 h2 =>
    show Rep E w ro _ _ (match idxN ids id with | some j => .bsl n j | none => .any)
    cases hj : idxN ids id with
    | some j => exact .bsl gh g j n cap (show (ids[j]?).bind ι = some gh by rw [idxN_get hj]; exact h1) h2
    | none => exact .any _
  | mk gh v g T id h1 h2 h3 h4 =>
    show Rep E w ro _ _ (match idxN ids id with | some j => .mk T j | none => .any)
    cases hj : idxN ids id with
    | some j => exact .mk gh _ g T j (show (ids[j]?).bind ι = some gh by rw [idxN_get hj]; exact h1) h2 h3 h4
    | none => exact .any _
  | sd => exact .any _
  | fn f vs us a b h1 h2 h3 h4 =>
    show Rep E w ro _ _ (bif a.all closA && b.all closA then .fn f a b else .any)
    cases hc : a.all closA && b.all closA with
    | false => exact .any _
    | true =>
      rw [Bool.and_eq_true, List.all_eq_true, List.all_eq_true] at hc
      exact .fn f vs us a b h1 h2 (fun j v c hv hj => closA_rep (hc.1 c (List.mem_of_getElem? hj)) (h3 j v c hv hj)) fun j v c hv hj => closA_rep (hc.2 c (List.mem_of_getElem? hj)) (h4 j v c hv hj)
theorem map_rep {ids : List Nat} {vs : Array Value} {cs : List (AV E)} (h : ∀ (j : Nat) v c, vs[j]? = some v → cs[j]? = some c → Rep E w ro ι v c) : ∀ (j : Nat) v c, vs[j]? = some v → (cs.map (ren1 ids))[j]? = some c → Rep E w ro (fun j => (ids[j]?).bind ι) v c := by
  intro j v c hv hc
  rw [List.getElem?_map] at hc
  cases hx : cs[j]? with
  | none => rw [hx] at hc; cases hc
  | some y =>
    rw [hx] at hc
    cases hc
    exact ren1_rep (h j v y hv hx)
theorem renV_rep {ids : List Nat} {v : Value} {x : AV E} (h : Rep E w ro ι v x) : Rep E w ro (fun j => (ids[j]?).bind ι) v (renV ids x) := by
  have one := ren1_rep (ids := ids) h
  cases h with
  | agg vs cs h1 h2 => exact .agg vs _ (by simp [h1]) (map_rep h2)
  | _ => exact one
theorem plainV_rep {objs : List (Nat × AObj E)} {v : Value} {x : AV E} (h : Rep E w ro ι v x) : Rep E w ro ι v (plainV objs x) := by
  have h0 := h
  cases h with
  | grow gh t l id h1 h2 h3 h4 h5 =>
    show Rep E w ro ι gh.v (match look objs id with | some (.tail true) => .grow t l id | _ => .d (.slice t l))
    split
    · exact h0
    · exact .d _ _ h5
  | _ => exact h0
theorem look_keepT {live : List Nat} {t : Nat} {y : AV E} (h : look (keepT S live) t = some y) : ∃ x, look S.tmps t = some x ∧ y = plainV S.objs x := by
  induction live with
  | nil => cases h
  | cons u r ih =>
    unfold keepT at h
    cases hx : look S.tmps u with
    | some x =>
      rw [hx] at h
      simp only [look] at h
      split at h
      · rename_i hb
        have := Nat.eq_of_beq_eq_true hb
        subst this
        cases h
        exact ⟨x, hx, rfl⟩
      · exact ih h
    | none =>
      rw [hx] at h
      exact ih h
theorem look_renT {ids : List Nat} : ∀ {l : List (Nat × AV E)} {t : Nat} {y : AV E}, look (renT ids l) t = some y → ∃ x, look l t = some x ∧ y = renV ids x
  | [], _, _, h => by cases h
  | (u, x) :: r, t, y, h => by
    simp only [renT, look] at h ⊢
    split at h
    · rename_i hb; rw [if_pos hb]; cases h; exact ⟨x, rfl, rfl⟩
    · rename_i hb; rw [if_neg hb]; exact look_renT h
theorem look_renOs {objs : List (Nat × AObj E)} {ids : List Nat} : ∀ {l : List Nat} {j q : Nat} {o : AObj E}, look (renOs objs ids l j) q = some o → ∃ i, j ≤ q ∧ l[q - j]? = some i ∧ (o = .dead ∨ ∃ o', look objs i = some o' ∧ o = renO ids o')
  | [], _, _, _, h => by cases h
  | i :: r, j, q, o, h => by
    simp only [renOs, look] at h
    split at h
    · rename_i hb
      have := Nat.eq_of_beq_eq_true hb
      subst this
      refine ⟨i, Nat.le_refl _, by simp, ?_⟩
      cases ho : look objs i with
      | none => rw [ho] at h; cases h; exact .inl rfl
      | some o' => rw [ho] at h; cases h; exact .inr ⟨o', rfl, rfl⟩
    · obtain ⟨i', h1, h2, h3⟩ := look_renOs h
      exact ⟨i', by omega, by rw [show q - j = (q - (j + 1)) + 1 from by omega]; simpa using h2, h3⟩
theorem noCond_renT {ids : List Nat} : ∀ (l : List (Nat × AV E)), NoCond (renT ids l)
  | [] => fun p h => by cases h
  | (t, x) :: r => fun p h => by
    cases h with
    | tail _ h => exact noCond_renT r p h
    | head =>
      simp only
      cases x with
      | cond => rfl
      | agg => rfl
      | any => rfl
      | d => rfl
      | st => rfl
      | tup => rfl
      | pelt => rfl
      | grow t l id => simp only [renV, ren1]; split <;> rfl
      | ptr id off => simp only [renV, ren1]; split <;> rfl
      | row t n id => simp only [renV, ren1]; split <;> rfl
      | elt id i off => simp only [renV, ren1]; split <;> rfl
      | bsl n id => simp only [renV, ren1]; split <;> rfl
      | mk T id => simp only [renV, ren1]; split <;> rfl
      | sd => rfl
      | fn f a b => simp only [renV, ren1]; cases a.all closA && b.all closA <;> rfl
theorem headS_sound (live : List Nat) (hio : w0.k = none) (hnc : NoCond S.tmps) (hg : Gam E w0 ro0 S a w ι ro) : ∃ ι', NoCond (headS live S).tmps ∧ Gam E w0 ro0 (headS live S) a w ι' ro := by
  let kept := keepT S live
  let ids0 := addAll [] (idsWs kept)
  let ids := addAll ids0 (idsO S.objs ids0)
  have hnd : ids.Nodup := addAll_nodup (addAll_nodup List.nodup_nil)
  refine ⟨fun j => (ids[j]?).bind ι, noCond_renT _, ⟨hg.base.below, hg.base.rolt, hg.base.ronew, fun id gh k h1 h2 => ?_, hg.base.defers, fun q hq => by rw [hio] at hq; cases hq⟩, hg.size, fun t y hl => ?_, fun id o hl => ?_, ?_, fun id h => ?_, fun id o hl => ?_⟩
  · cases hj : ids[id]? with
    | none => simp only [hj] at h1; cases h1
    | some i => simp only [hj] at h1; exact hg.base.ilt i gh k h1 h2
  · obtain ⟨x, hx, rfl⟩ := look_renT hl
    obtain ⟨z, hz, rfl⟩ := look_keepT hx
    obtain ⟨v, hv, hs⟩ := hg.tmps t z hz
    have hc : isCond z = false := hnc _ (look_mem _ _ _ hz)
    have hr : Rep E w ro ι v z := by cases z <;> first | exact hs | cases hc
    refine ⟨v, hv, ?_⟩
    have h2 := renV_rep (ids := ids) (plainV_rep (objs := S.objs) hr)
    have h3 : isCond (renV ids (plainV S.objs z)) = false := by
      have := noCond_renT (ids := ids) [(0, plainV S.objs z)]
      exact this (0, renV ids (plainV S.objs z)) List.mem_cons_self
    show SRep E w ro _ a.tmps v (renV ids (plainV S.objs z))
    generalize renV ids (plainV S.objs z) = y at h2 h3
    cases y <;> first | exact h2 | cases h3
  · obtain ⟨i, _, hi, h⟩ := look_renOs hl
    simp only [Nat.sub_zero] at hi
    rcases h with rfl | ⟨o', ho', rfl⟩
    · trivial
    · have h := hg.objs i o' ho'
      have hi' : (fun j => (ids[j]?).bind ι) id = ι i := by
        show (ids[id]?).bind ι = ι i
        rw [hi]; rfl
      cases o' with
      | dead => trivial
      | tail l =>
        intro hl
        obtain ⟨gh, xs, h1, h2, h3⟩ := h hl
        exact ⟨gh, xs, hi'.trans h1, h2, h3⟩
      | row t l =>
        obtain ⟨gh, xs, h1, h2⟩ := h
        exact ⟨gh, xs, hi'.trans h1, h2⟩
      | box cs =>
        obtain ⟨gh, g, vs, ty, h1, h2, hb, h3, h4, h5, h6⟩ := h
        exact ⟨gh, g, vs, ty, hi'.trans h1, h2, hb, h3, by simp [h4], fun j v c hv hc => ⟨by
          have hj : j < cs.length := by have := (List.getElem?_eq_some_iff.1 hc).1; simpa using this
          exact (h5 j v _ hv (List.getElem?_eq_getElem hj)).1, map_rep (fun j v c hv hc => (h5 j v c hv hc).2) j v c hv hc⟩, h6⟩
  · intro id id' o o' gh gh' k hl hl' l1 l2 i1 i2 b1 b2
    obtain ⟨i, _, hi, h⟩ := look_renOs hl
    obtain ⟨i', _, hi', h'⟩ := look_renOs hl'
    simp only [Nat.sub_zero] at hi hi'
    rcases h with rfl | ⟨q, hq, rfl⟩
    · cases l1
    rcases h' with rfl | ⟨q', hq', rfl⟩
    · cases l2
    have e1 : q.live = true := by cases q <;> exact l1
    have e2 : q'.live = true := by cases q' <;> exact l2
    simp only at i1 i2
    have i1' : (ids[id]?).bind ι = some gh := i1
    have i2' : (ids[id']?).bind ι = some gh' := i2
    rw [show ids[id]? = some i from hi] at i1'
    rw [show ids[id']? = some i' from hi'] at i2'
    have := hg.inj i i' q q' gh gh' k hq hq' e1 e2 i1' i2' b1 b2
    subst this
    have hlt := (List.getElem?_eq_some_iff.1 hi).1
    have hlt' := (List.getElem?_eq_some_iff.1 hi').1
    exact (List.getElem?_inj hlt hnd).1 (hi.trans hi'.symm)
  · have h' : ids.length ≤ id := h
    show (ids[id]?).bind ι = none
    rw [List.getElem?_eq_none h']
    rfl
  · obtain ⟨i, _, hi, _⟩ := look_renOs hl
    simp only [Nat.sub_zero] at hi
    exact (List.getElem?_eq_some_iff.1 hi).1
end
section
variable {P : Program} {E : Env P} {O : Oracle E} {w0 : Start} {ro0 : Nat → Nat → Prop}
theorem evRegL_sound {R : Type} (hO : OracleOk E O) (hmix : P.follows .mixedOrders = true) {S : ASt E} {a : Act} {w : World} {ι : Nat → Option Gh} {ro : Nat → Nat → Prop} (hnc : NoCond S.tmps) (hg : Gam E w0 ro0 S a w ι ro) {k : ASt E → Option R} {rr : R} {Q : Exit → Act → World → Prop} {b dr : Bool} {ops : Array Oper} {id : Nat}
    (hk : ∀ S' a' w' ι' ro', NoCond S'.tmps → Gam E w0 ro0 S' a' w' ι' ro' → S'.n = S.n → k S' = some rr → Q .normal a' w') (h : evRegL b O ops dr S k = some rr) : (Code.region id ops dr).wp P Q a w := by
  have old : evReg O ops dr S k = some rr → (Code.region id ops dr).wp P Q a w := fun h => by
    cases dr with
    | true => exact evDraw_sound (n := S.n) (glob := S.tmps) (objs := S.objs) (next := S.next) hO hmix hnc hg hk h
    | false => exact wp_region_list (evSeq_sound (n := S.n) (glob := S.tmps) hO hnc hk ops.toList [] S.objs S.next a w ι ro hg h)
  unfold evRegL at h
  split at h
  · exact evLast_sound hO hmix hnc hg hk h
  · exact old h
end
end Go.Proofs.YtjpmmpomloldmaaGreat.Mir
namespace Go.Proofs.YtjpmmpomloldmaaGreat.Mir
open Go Go.RowKit
section
variable {P : Program} {E : Env P}
def valA (S : ASt E) (r : ResultVar) : Option (AV E) := match r with
  | .tmp q => some (slotA [] (look S.tmps q))
  | .cell q ty => evLoad S.objs ty (slotA [] (look S.tmps q))
def resA (S : ASt E) : List ResultVar → List TypeId → Option (List (TV E))
  | [], [] => some []
  | r :: rs, T :: Ts => match E.code T with
    | some t => match valA S r with
      | some v => match foldA t v with
        | some x => match resA S rs Ts with
          | some xs => some (⟨t, x⟩ :: xs)
          | none => none
        | none => none
      | none => none
    | none => none
  | _, _ => none
def argsT : List (TV E) → Nat → List (Nat × AV E)
  | [], _ => []
  | ⟨t, x⟩ :: r, i => (i, expandA t x) :: argsT r (i + 1)
def startS (fn : Func) (args : List (TV E)) : ASt E := ⟨args.length + (fn.ntmps - args.length), argsT args 0, [], 0⟩
def endK (fn : Func) (e : AExit) (S : ASt E) : Option (List (TV E)) := match e with
  | .exit _ => none
  | .goto _ => none
  | _ => resA (freezeS S) fn.results.toList fn.resultTypes.toList
def runE (O : Oracle E) (h : Hint E) (G : Nat → ASt E → Option (List (TV E))) (fn : Func) (args : List (TV E)) : Option (List (TV E)) := match fn.body with
  | some c => evCode O h G 0 c (startS fn args) (endK fn)
  | none => none
def runL (O : Oracle E) (h : Hint E) (G : Nat → ASt E → Option (List (TV E))) (fn : Func) (j : Nat) (S : ASt E) : Option (List (TV E)) := match fn.body with
  | some c => segC O h G c j S (endK fn)
  | none => none
end
section
variable {P : Program}
def LoopWp (P : Program) (c : Code) (Q : Exit → Act → World → Prop) (a : Act) (w : World) : Prop :=
  ∀ b k cs, ∃ e a' w', Q e a' w' ∧ Arrives P (lone (b.at a (.code c :: .inLoop c :: k)) cs w) b k cs e a' w'
theorem LoopWp.wp {c : Code} {Q : Exit → Act → World → Prop} {a : Act} {w : World} (h : LoopWp P c Q a w) : (Code.loop c).wp P Q a w := by
  intro b k cs
  obtain ⟨e, a', w', hq, harr⟩ := h b k cs
  exact ⟨e, a', w', hq, .of_steps (.one step_loop) harr⟩
theorem LoopWp.round {c : Code} {Q : Exit → Act → World → Prop} {a : Act} {w : World} (h : c.wp P (Exit.then (LoopWp P c Q) Q) a w) : LoopWp P c Q a w := by
  intro b k cs
  obtain ⟨e, a₁, w₁, hq, harr⟩ := h b (.inLoop c :: k) cs
  cases e with
  | normal =>
    obtain ⟨e₂, a₂, w₂, hq₂, harr₂⟩ := hq b k cs
    exact ⟨e₂, a₂, w₂, hq₂, .of_steps (Steps.trans harr (.one step_inLoop)) harr₂⟩
  | exit id => exact ⟨_, a₁, w₁, hq, .pass (x := .inLoop c) rfl (fun _ _ => .inl (by simp)) harr⟩
  | goto l => exact ⟨_, a₁, w₁, hq, .pass (x := .inLoop c) rfl (fun _ _ => .inl (by simp)) harr⟩
  | ret => exact ⟨_, a₁, w₁, hq, .pass (x := .inLoop c) rfl (fun _ _ => .inl (by simp)) harr⟩
  | panic ch => exact ⟨_, a₁, w₁, hq, .pass (x := .inLoop c) rfl (fun _ _ => .inl (by simp)) harr⟩
  | outgrown => exact ⟨_, a₁, w₁, hq, .pass (x := .inLoop c) rfl (fun _ _ => .inl (by simp)) harr⟩
def JumpWp (P : Program) (c rest : Code) (Q : Exit → Act → World → Prop) (a : Act) (w : World) : Prop :=
  ∀ b k cs, ∃ e a' w', Q e a' w' ∧ Arrives P (lone (b.at a (.code rest :: .inScope c :: k)) cs w) b k cs e a' w'
def scPost (P : Program) (c : Code) (Q : Exit → Act → World → Prop) : Exit → Act → World → Prop
  | .goto l, a, w => ∃ rest, findLabel c l = some rest ∧ JumpWp P c rest Q a w
  | e, a, w => Q e a w
theorem JumpWp.of {c rest : Code} {Q : Exit → Act → World → Prop} {a : Act} {w : World} (h : rest.wp P (scPost P c Q) a w) : JumpWp P c rest Q a w := by
  intro b k cs
  obtain ⟨e, a₁, w₁, hq, harr⟩ := h b (.inScope c :: k) cs
  cases e with
  | normal => exact ⟨.normal, a₁, w₁, hq, Steps.trans harr (.one step_inScope)⟩
  | exit id => exact ⟨.exit id, a₁, w₁, hq, fun k' hk => harr k' (by simp [exitTo, hk])⟩
  | goto l' =>
    obtain ⟨rest', hf, hJ⟩ := hq
    have hg : gotoIn l' (.inScope c :: k) = some (.code rest' :: .inScope c :: k) := by simp [gotoIn, hf]
    obtain ⟨e₂, a₂, w₂, hq₂, harr₂⟩ := hJ b k cs
    exact ⟨e₂, a₂, w₂, hq₂, .of_steps (harr _ hg) harr₂⟩
  | ret => exact ⟨_, a₁, w₁, hq, harr⟩
  | panic ch => exact ⟨_, a₁, w₁, hq, harr⟩
  | outgrown => exact ⟨_, a₁, w₁, hq, harr⟩
theorem wp_scopeJ {c : Code} {Q : Exit → Act → World → Prop} {a : Act} {w : World} (h : c.wp P (scPost P c Q) a w) : (Code.scope c).wp P Q a w := by
  intro b k cs
  obtain ⟨e, a₁, w₁, hq, harr⟩ := h b (.inScope c :: k) cs
  cases e with
  | normal => exact ⟨.normal, a₁, w₁, hq, .head step_scope (Steps.trans harr (.one step_inScope))⟩
  | exit id => exact ⟨.exit id, a₁, w₁, hq, fun k' hk => .head step_scope (harr k' (by simp [exitTo, hk]))⟩
  | goto l' =>
    obtain ⟨rest', hf, hJ⟩ := hq
    have hg : gotoIn l' (.inScope c :: k) = some (.code rest' :: .inScope c :: k) := by simp [gotoIn, hf]
    obtain ⟨e₂, a₂, w₂, hq₂, harr₂⟩ := hJ b k cs
    exact ⟨e₂, a₂, w₂, hq₂, .of_steps (.head step_scope (harr _ hg)) harr₂⟩
  | ret => exact ⟨_, a₁, w₁, hq, .of_steps (.one step_scope) harr⟩
  | panic ch => exact ⟨_, a₁, w₁, hq, .of_steps (.one step_scope) harr⟩
  | outgrown => exact ⟨_, a₁, w₁, hq, .of_steps (.one step_scope) harr⟩
def scopeAt (P : Program) : Code → (Exit → Act → World → Prop) → Option (Code × (Exit → Act → World → Prop))
  | .scope c, Q => some (c, Q)
  | .seq x y, Q => (match hasScope x with
    | true => scopeAt P x (Exit.then (y.wp P Q) Q)
    | false => scopeAt P y Q)
  | .block id b, Q => scopeAt P b (Exit.inBlock id Q)
  | _, _ => none
def contAt (P : Program) : Code → Nat → (Exit → Act → World → Prop) → Option (Code × (Exit → Act → World → Prop))
  | .loop b, 0, Q => some (b, Q)
  | .loop b, j + 1, Q => contAt P b j (Exit.then (LoopWp P b Q) Q)
  | .seq x y, j, Q => match Nat.blt j (nloops x) with
    | true => contAt P x j (Exit.then (y.wp P Q) Q)
    | false => contAt P y (j - nloops x) Q
  | .cond _ x y, j, Q => match Nat.blt j (nloops x) with
    | true => contAt P x j Q
    | false => contAt P y (j - nloops x) Q
  | .block id b, j, Q => contAt P b j (Exit.inBlock id Q)
  | _, _, _ => none
def Placed (P : Program) (c0 : Code) (Q0 : Exit → Act → World → Prop) (i : Nat) (c : Code) (Q : Exit → Act → World → Prop) : Prop :=
  ∀ j, j < nloops c → contAt P c0 (i + j) Q0 = contAt P c j Q
theorem blt_true {a b : Nat} (h : a < b) : Nat.blt a b = true := by simpa [Nat.blt_eq] using h
theorem blt_false {a b : Nat} (h : b ≤ a) : Nat.blt a b = false := by
  cases hb : Nat.blt a b with
  | false => rfl
  | true => rw [Nat.blt_eq] at hb; omega
section
variable {c0 : Code} {Q0 Q : Exit → Act → World → Prop} {i : Nat}
theorem Placed.seq {x y : Code} (h : Placed P c0 Q0 i (.seq x y) Q) : Placed P c0 Q0 i x (Exit.then (y.wp P Q) Q) ∧ Placed P c0 Q0 (i + nloops x) y Q := by
  refine ⟨fun j hj => ?_, fun j hj => ?_⟩
  · rw [h j (by show j < nloops x + nloops y; omega)]
    simp only [contAt, blt_true hj]
  · rw [Nat.add_assoc, h (nloops x + j) (by show nloops x + j < nloops x + nloops y; omega)]
    simp only [contAt, blt_false (show nloops x ≤ nloops x + j by omega), Nat.add_sub_cancel_left]
theorem Placed.cond {c : Operand} {x y : Code} (h : Placed P c0 Q0 i (.cond c x y) Q) : Placed P c0 Q0 i x Q ∧ Placed P c0 Q0 (i + nloops x) y Q := by
  refine ⟨fun j hj => ?_, fun j hj => ?_⟩
  · rw [h j (by show j < nloops x + nloops y; omega)]
    simp only [contAt, blt_true hj]
  · rw [Nat.add_assoc, h (nloops x + j) (by show nloops x + j < nloops x + nloops y; omega)]
    simp only [contAt, blt_false (show nloops x ≤ nloops x + j by omega), Nat.add_sub_cancel_left]
theorem Placed.block {id : Nat} {b : Code} (h : Placed P c0 Q0 i (.block id b) Q) : Placed P c0 Q0 i b (Exit.inBlock id Q) := fun j hj => h j hj
theorem Placed.head {b : Code} (h : Placed P c0 Q0 i (.loop b) Q) : contAt P c0 i Q0 = some (b, Q) := h 0 (by show 0 < nloops b + 1; omega)
theorem Placed.inner {b : Code} (h : Placed P c0 Q0 i (.loop b) Q) : Placed P c0 Q0 (i + 1) b (Exit.then (LoopWp P b Q) Q) := fun j hj => by
  rw [Nat.add_assoc, Nat.add_comm 1 j]
  exact h (j + 1) (by show j + 1 < nloops b + 1; omega)
theorem Placed.of_zero {c : Code} (h : nloops c = 0) : Placed P c0 Q0 i c Q := fun j hj => by omega
theorem Placed.whole : Placed P c0 Q0 0 c0 Q0 := fun j _ => by rw [Nat.zero_add]
end
end
section
variable {P : Program} {E : Env P} {O : Oracle E} {h : Hint E} {w0 : Start} {ro0 : Nat → Nat → Prop} {n : Nat} {c0 : Code} {Q0 : Exit → Act → World → Prop}
def HeadOk (E : Env P) (w0 : Start) (ro0 : Nat → Nat → Prop) (n : Nat) (c0 : Code) (Q0 : Exit → Act → World → Prop) (i : Nat) (S : ASt E) : Prop :=
  ∀ b Q, contAt P c0 i Q0 = some (b, Q) → ∀ a w ι ro, NoCond S.tmps → Gam E w0 ro0 S a w ι ro → S.n = n → LoopWp P b Q a w
def LabOk (E : Env P) (w0 : Start) (ro0 : Nat → Nat → Prop) (n : Nat) (c0 : Code) (Q0 : Exit → Act → World → Prop) (i : Nat) (S : ASt E) : Prop :=
  ∀ l, i = 100 + l → ∀ sc Q rest, scopeAt P c0 Q0 = some (sc, Q) → findLabel sc l = some rest → ∀ a w ι ro, NoCond S.tmps → Gam E w0 ro0 S a w ι ro → S.n = n → rest.wp P (scPost P sc Q) a w
def HdOk (E : Env P) (w0 : Start) (ro0 : Nat → Nat → Prop) (n : Nat) (c0 : Code) (Q0 : Exit → Act → World → Prop) (i : Nat) (S : ASt E) : Prop := HeadOk E w0 ro0 n c0 Q0 i S ∧ LabOk E w0 ro0 n c0 Q0 i S
theorem contAt_none : ∀ (c : Code) (j : Nat) (Q : Exit → Act → World → Prop), nloops c ≤ j → contAt P c j Q = none
  | .loop b, 0, Q, h => by simp [nloops] at h
  | .loop b, j + 1, Q, h => contAt_none b j _ (by simp only [nloops] at h; omega)
  | .seq x y, j, Q, h => by
    simp only [nloops] at h
    simp only [contAt, blt_false (show nloops x ≤ j by omega)]
    exact contAt_none y _ Q (by omega)
  | .cond _ x y, j, Q, h => by
    simp only [nloops] at h
    simp only [contAt, blt_false (show nloops x ≤ j by omega)]
    exact contAt_none y _ Q (by omega)
  | .block id b, j, Q, h => contAt_none b j _ (by simpa only [nloops] using h)
  | .skip, _, _, _ => rfl
  | .ret, _, _, _ => rfl
  | .exit _, _, _, _ => rfl
  | .region .., _, _, _ => rfl
  | .scope _, _, _, _ => rfl
  | .label _, _, _, _ => rfl
  | .goto _, _, _, _ => rfl
  | .rangeFunc .., _, _, _ => rfl
  | .refuse _, _, _, _ => rfl
theorem headAt_sound (hh : Hint E) (i : Nat) (hio : w0.k = none) {S : ASt E} {a : Act} {w : World} {ι : Nat → Option Gh} {ro : Nat → Nat → Prop} (hnc : NoCond S.tmps) (hg : Gam E w0 ro0 S a w ι ro) (hn : S.n = n) :
    ∃ ι', NoCond (headAt hh i S).tmps ∧ Gam E w0 ro0 (headAt hh i S) a w ι' ro ∧ (headAt hh i S).n = n := by
  obtain ⟨ι1, hnc1, hg1, hn1⟩ := nilS_sound (atN hh.nils i) S ι hnc hg
  obtain ⟨ι', hnc', hg'⟩ := headS_sound (atN hh.live i) hio hnc1 hg1
  exact ⟨ι', hnc', hg', hn1.trans hn⟩
theorem evCode_sound {R : Type} (hO : OracleOk E O) (hmix : P.follows .mixedOrders = true) {G : Nat → ASt E → Option R} {rr : R} (hG : ∀ i S, G i S = some rr → w0.k = none ∧ HdOk E w0 ro0 n c0 Q0 i S) :
    ∀ (c : Code) (i : Nat) (S : ASt E) (k : AExit → ASt E → Option R) (Q : Exit → Act → World → Prop) (a : Act) (w : World) (ι : Nat → Option Gh) (ro : Nat → Nat → Prop), Placed P c0 Q0 i c Q → (hasScope c = true → scopeAt P c Q = scopeAt P c0 Q0) →
    NoCond S.tmps → Gam E w0 ro0 S a w ι ro → S.n = n → evCode O h G i c S k = some rr →
    (∀ e S' a' w' ι' ro', NoCond S'.tmps → Gam E w0 ro0 S' a' w' ι' ro' → S'.n = n → k e S' = some rr → Q e.toExit a' w') → c.wp P Q a w := by
  intro c
  induction c with
  | skip => intro i S k Q a w ι ro _ _ hnc hg hn h hk; exact wp_skip (hk .normal S a w ι ro hnc hg hn h)
  | ret => intro i S k Q a w ι ro _ _ hnc hg hn h hk; exact wp_ret (hk .ret S a w ι ro hnc hg hn h)
  | exit id => intro i S k Q a w ι ro _ _ hnc hg hn h hk; exact wp_exit (hk (.exit id) S a w ι ro hnc hg hn h)
  | region id ops draw =>
    intro i S k Q a w ι ro _ _ hnc hg hn hh hk
    have go : ∀ (S : ASt E) (ro : Nat → Nat → Prop), NoCond S.tmps → Gam E w0 ro0 S a w ι ro → S.n = n → evRegL (memN h.lst id) O ops draw S (k .normal) = some rr → (Code.region id ops draw).wp P Q a w := fun S ro hnc hg hn hq =>
      evRegL_sound hO hmix hnc hg (fun S' a' w' ι' ro' h1 h2 h3 h4 => hk .normal S' a' w' ι' ro' h1 h2 (h3.trans hn) h4) hq
    simp only [evCode] at hh
    have fin : ∀ (l1 : List (Nat × Nat)) (l2 : List Nat) (S : ASt E) (ro : Nat → Nat → Prop), NoCond S.tmps → Gam E w0 ro0 S a w ι ro → S.n = n → splitK l1 (openS l2 S) (fun S' => evRegL (memN h.lst id) O ops draw S' (k .normal)) = some rr → (Code.region id ops draw).wp P Q a w := by
      intro l1 l2 S ro hnc hg hn h
      obtain ⟨ro1, g1, g2, g3⟩ := openS_sound l2 S ro hnc hg
      obtain ⟨S2, g4, g5, g6, g7⟩ := splitK_sound _ _ g1 g2 h
      exact go S2 ro1 g4 g5 (g6.trans (g3.trans hn)) g7
    split at hh
    · obtain ⟨h1, h2⟩ := freezeS_sound hnc hg
      exact fin _ _ (freezeS S) _ h1 h2 hn hh
    · exact fin _ _ S ro hnc hg hn hh
  | seq x y ihx ihy =>
    intro i S k Q a w ι ro hp hs hnc hg hn h hk
    simp only [evCode] at h
    split at h
    · cases h
    · rename_i hxy
      have sx : hasScope x = true → scopeAt P x (Exit.then (y.wp P Q) Q) = scopeAt P c0 Q0 := fun hx => by
        rw [← hs (by simp only [hasScope, hx, Bool.true_or])]
        simp only [scopeAt, hx]
      have sy : hasScope y = true → scopeAt P y Q = scopeAt P c0 Q0 := fun hy => by
        have hx : hasScope x = false := by
          cases hq : hasScope x with
          | false => rfl
          | true => rw [hq, hy] at hxy; cases hxy
        rw [← hs (by simp only [hasScope, hy, Bool.or_true])]
        simp only [scopeAt, hx]
      refine wp_seq (ihx i S _ _ a w ι ro hp.seq.1 sx hnc hg hn h fun e S' a' w' ι' ro' h1 h2 h3 h4 => ?_)
      cases e with
      | normal => exact ihy _ S' k Q a' w' ι' ro' hp.seq.2 sy h1 h2 h3 h4 hk
      | exit id => exact hk (.exit id) S' a' w' ι' ro' h1 h2 h3 h4
      | ret => exact hk .ret S' a' w' ι' ro' h1 h2 h3 h4
      | goto l => exact hk (.goto l) S' a' w' ι' ro' h1 h2 h3 h4
  | cond c x y ihx ihy =>
    intro i S k Q a w ι ro hp _ hnc hg hn h hk
    have hc := getA_rep (E := E) (asm := []) hg.tmps (fun j b hb => by simp [hasAsm] at hb) c
    simp only [evCode] at h
    split at h
    · cases h
    · rename_i hxy
      rw [Bool.or_eq_false_iff] at hxy
      split at h
      · rename_i b hb
        rw [hb] at hc
        have hc := hc.bool_inv
        cases b with
        | true => exact wp_cond_true hc (ihx i S k Q a w ι ro hp.cond.1 (fun e => by rw [hxy.1] at e; cases e) hnc hg hn h hk)
        | false => exact wp_cond_false hc (ihy _ S k Q a w ι ro hp.cond.2 (fun e => by rw [hxy.2] at e; cases e) hnc hg hn h hk)
      · cases h
  | block id body ih =>
    intro i S k Q a w ι ro hp hs hnc hg hn h hk
    refine wp_block (ih i S _ _ a w ι ro hp.block hs hnc hg hn h fun e S' a' w' ι' ro' h1 h2 h3 h4 => ?_)
    cases e with
    | goto l => exact hk (.goto l) S' a' w' ι' ro' h1 h2 h3 h4
    | normal => exact hk .normal S' a' w' ι' ro' h1 h2 h3 h4
    | ret => exact hk .ret S' a' w' ι' ro' h1 h2 h3 h4
    | exit i =>
      simp only [AExit.toExit, Exit.inBlock, blockK] at h4 ⊢
      cases hb : Nat.beq i id with
      | true =>
        rw [hb] at h4
        rw [if_pos (Nat.eq_of_beq_eq_true hb)]
        exact hk .normal S' a' w' ι' ro' h1 h2 h3 h4
      | false =>
        rw [hb] at h4
        rw [if_neg (fun e => by subst e; simp at hb)]
        exact hk (.exit i) S' a' w' ι' ro' h1 h2 h3 h4
  | loop body ih =>
    intro i S k Q a w ι ro hp _ hnc hg hn hh hk
    obtain ⟨ι', h1, h2, h3⟩ := headAt_sound h i (hG i _ hh).1 hnc hg hn
    exact ((hG i _ hh).2.1 body Q hp.head a w ι' ro h1 h2 h3).wp
  | label l => intro i S k Q a w ι ro _ _ hnc hg hn h hk; exact wp_label (hk .normal S a w ι ro hnc hg hn h)
  | goto l => intro i S k Q a w ι ro _ _ hnc hg hn h hk; exact wp_goto (hk (.goto l) S a w ι ro hnc hg hn h)
  | scope c ih =>
    intro i S k Q a w ι ro hp hs hnc hg hn hh hk
    simp only [evCode] at hh
    split at hh
    · rename_i hns hz
      refine wp_scopeJ (ih i S _ _ a w ι ro (Placed.of_zero hz) (fun e => by rw [hns] at e; cases e) hnc hg hn hh fun e S' a' w' ι' ro' h1 h2 h3 h4 => ?_)
      cases e with
      | normal => exact hk .normal S' a' w' ι' ro' h1 h2 h3 h4
      | exit id => exact hk (.exit id) S' a' w' ι' ro' h1 h2 h3 h4
      | ret => exact hk .ret S' a' w' ι' ro' h1 h2 h3 h4
      | goto l =>
        simp only [scopeK] at h4
        split at h4
        · rename_i rest hf
          obtain ⟨ι2, g1, g2, g3⟩ := headAt_sound h (100 + l) (hG _ _ h4).1 h1 h2 h3
          exact ⟨rest, hf, JumpWp.of ((hG _ _ h4).2.2 l rfl c Q rest (hs rfl).symm hf a' w' ι2 ro' g1 g2 g3)⟩
        · cases h4
    · cases hh
  | _ => intro i S k Q a w ι ro _ _ hnc hg hn h hk; cases h
theorem ctxK_sound {R : Type} (hO : OracleOk E O) (hmix : P.follows .mixedOrders = true) {G : Nat → ASt E → Option R} {rr : R} (hG : ∀ i S, G i S = some rr → w0.k = none ∧ HdOk E w0 ro0 n c0 Q0 i S) :
    ∀ (c : Code) (i j : Nat) (k : AExit → ASt E → Option R) (Q : Exit → Act → World → Prop) (i' : Nat) (b : Code) (k' : AExit → ASt E → Option R), Placed P c0 Q0 i c Q → hasScope c = false → ctxK O h G i c j k = some (i', b, k') →
    (∀ e S' a' w' ι' ro', NoCond S'.tmps → Gam E w0 ro0 S' a' w' ι' ro' → S'.n = n → k e S' = some rr → Q e.toExit a' w') →
    i' = i + j ∧ hasScope b = false ∧ ∃ Q', Placed P c0 Q0 i' (.loop b) Q' ∧ ∀ e S' a' w' ι' ro', NoCond S'.tmps → Gam E w0 ro0 S' a' w' ι' ro' → S'.n = n → k' e S' = some rr → Q' e.toExit a' w' := by
  intro c
  induction c with
  | seq x y ihx ihy =>
    intro i j k Q i' b k' hp hns hc hk
    simp only [ctxK] at hc
    split at hc
    · rename_i hj
      refine ihx i j _ _ i' b k' hp.seq.1 (Bool.or_eq_false_iff.1 hns).1 hc fun e S' a' w' ι' ro' h1 h2 h3 h4 => ?_
      cases e with
      | normal => exact evCode_sound hO hmix hG y _ S' k Q a' w' ι' ro' hp.seq.2 (fun e => by rw [(Bool.or_eq_false_iff.1 hns).2] at e; cases e) h1 h2 h3 h4 hk
      | goto l => exact hk (.goto l) S' a' w' ι' ro' h1 h2 h3 h4
      | exit id => exact hk (.exit id) S' a' w' ι' ro' h1 h2 h3 h4
      | ret => exact hk .ret S' a' w' ι' ro' h1 h2 h3 h4
    · rename_i hj
      have hle : nloops x ≤ j := by
        rcases Nat.lt_or_ge j (nloops x) with h | h
        · rw [blt_true h] at hj; cases hj
        · exact h
      obtain ⟨e1, rest⟩ := ihy _ _ k Q i' b k' hp.seq.2 (Bool.or_eq_false_iff.1 hns).2 hc hk
      exact ⟨by omega, rest⟩
  | cond c x y ihx ihy =>
    intro i j k Q i' b k' hp hns hc hk
    simp only [ctxK] at hc
    split at hc
    · exact ihx i j k Q i' b k' hp.cond.1 (Bool.or_eq_false_iff.1 hns).1 hc hk
    · rename_i hj
      have hle : nloops x ≤ j := by
        rcases Nat.lt_or_ge j (nloops x) with h | h
        · rw [blt_true h] at hj; cases hj
        · exact h
      obtain ⟨e1, rest⟩ := ihy _ _ k Q i' b k' hp.cond.2 (Bool.or_eq_false_iff.1 hns).2 hc hk
      exact ⟨by omega, rest⟩
  | block id body ih =>
    intro i j k Q i' b k' hp hns hc hk
    refine ih i j _ _ i' b k' hp.block hns hc fun e S' a' w' ι' ro' h1 h2 h3 h4 => ?_
    cases e with
    | goto l => exact hk (.goto l) S' a' w' ι' ro' h1 h2 h3 h4
    | normal => exact hk .normal S' a' w' ι' ro' h1 h2 h3 h4
    | ret => exact hk .ret S' a' w' ι' ro' h1 h2 h3 h4
    | exit i =>
      simp only [AExit.toExit, Exit.inBlock, blockK] at h4 ⊢
      cases hb : Nat.beq i id with
      | true =>
        rw [hb] at h4
        rw [if_pos (Nat.eq_of_beq_eq_true hb)]
        exact hk .normal S' a' w' ι' ro' h1 h2 h3 h4
      | false =>
        rw [hb] at h4
        rw [if_neg (fun e => by subst e; simp at hb)]
        exact hk (.exit i) S' a' w' ι' ro' h1 h2 h3 h4
  | loop body ih =>
    intro i j k Q i' b k' hp hns hc hk
    cases j with
    | zero =>
      cases hc
      exact ⟨rfl, hns, Q, hp, hk⟩
    | succ j =>
      obtain ⟨e1, rest⟩ := ih (i + 1) j _ _ i' b k' hp.inner hns hc fun e S' a' w' ι' ro' h1 h2 h3 h4 => (by
        cases e with
        | normal =>
          obtain ⟨ι2, g1, g2, g3⟩ := headAt_sound h i (hG i _ h4).1 h1 h2 h3
          exact (hG i _ h4).2.1 body Q hp.head a' w' ι2 ro' g1 g2 g3
        | exit id => exact hk (.exit id) S' a' w' ι' ro' h1 h2 h3 h4
        | goto l => exact hk (.goto l) S' a' w' ι' ro' h1 h2 h3 h4
        | ret => exact hk .ret S' a' w' ι' ro' h1 h2 h3 h4)
      exact ⟨by omega, rest⟩
  | _ => intro i j k Q i' b k' hp hns hc hk; cases hc
theorem ctxS_sound {R : Type} (hO : OracleOk E O) (hmix : P.follows .mixedOrders = true) {G : Nat → ASt E → Option R} {rr : R} (hG : ∀ i S, G i S = some rr → w0.k = none ∧ HdOk E w0 ro0 n c0 Q0 i S) :
    ∀ (c : Code) (i : Nat) (k : AExit → ASt E → Option R) (Q : Exit → Act → World → Prop) (sc : Code) (k' : AExit → ASt E → Option R), Placed P c0 Q0 i c Q → ctxS O h G i c k = some (sc, k') →
    (∀ e S' a' w' ι' ro', NoCond S'.tmps → Gam E w0 ro0 S' a' w' ι' ro' → S'.n = n → k e S' = some rr → Q e.toExit a' w') →
    ∃ Q', scopeAt P c Q = some (sc, Q') ∧ ∀ e S' a' w' ι' ro', NoCond S'.tmps → Gam E w0 ro0 S' a' w' ι' ro' → S'.n = n → k' e S' = some rr → Q' e.toExit a' w' := by
  intro c
  induction c with
  | scope c ih =>
    intro i k Q sc k' hp hc hk
    cases hc
    exact ⟨Q, rfl, hk⟩
  | seq x y ihx ihy =>
    intro i k Q sc k' hp hc hk
    simp only [ctxS] at hc
    split at hc
    · rename_i hx hy
      simp only [scopeAt, hx]
      refine ihx i _ _ sc k' hp.seq.1 hc fun e S' a' w' ι' ro' h1 h2 h3 h4 => ?_
      cases e with
      | normal => exact evCode_sound hO hmix hG y _ S' k Q a' w' ι' ro' hp.seq.2 (fun e => by rw [hy] at e; cases e) h1 h2 h3 h4 hk
      | exit id => exact hk (.exit id) S' a' w' ι' ro' h1 h2 h3 h4
      | goto l => exact hk (.goto l) S' a' w' ι' ro' h1 h2 h3 h4
      | ret => exact hk .ret S' a' w' ι' ro' h1 h2 h3 h4
    · rename_i hx hy
      simp only [scopeAt, hx]
      exact ihy _ k Q sc k' hp.seq.2 hc hk
    · cases hc
  | block id body ih =>
    intro i k Q sc k' hp hc hk
    refine ih i _ _ sc k' hp.block hc fun e S' a' w' ι' ro' h1 h2 h3 h4 => ?_
    cases e with
    | normal => exact hk .normal S' a' w' ι' ro' h1 h2 h3 h4
    | goto l => exact hk (.goto l) S' a' w' ι' ro' h1 h2 h3 h4
    | ret => exact hk .ret S' a' w' ι' ro' h1 h2 h3 h4
    | exit i =>
      simp only [AExit.toExit, Exit.inBlock, blockK] at h4 ⊢
      cases hb : Nat.beq i id with
      | true =>
        rw [hb] at h4
        rw [if_pos (Nat.eq_of_beq_eq_true hb)]
        exact hk .normal S' a' w' ι' ro' h1 h2 h3 h4
      | false =>
        rw [hb] at h4
        rw [if_neg (fun e => by subst e; simp at hb)]
        exact hk (.exit i) S' a' w' ι' ro' h1 h2 h3 h4
  | _ => intro i k Q sc k' hp hc hk; cases hc
theorem segC_sound {R : Type} (hO : OracleOk E O) (hmix : P.follows .mixedOrders = true) {G : Nat → ASt E → Option R} {rr : R} (hG : ∀ i S, G i S = some rr → w0.k = none ∧ HdOk E w0 ro0 n c0 Q0 i S) {j : Nat} {S : ASt E} {k : AExit → ASt E → Option R}
    (hk : ∀ e S' a' w' ι' ro', NoCond S'.tmps → Gam E w0 ro0 S' a' w' ι' ro' → S'.n = n → k e S' = some rr → Q0 e.toExit a' w') (hs : segC O h G c0 j S k = some rr) : HdOk E w0 ro0 n c0 Q0 j S := by
  unfold segC at hs
  split at hs
  · rename_i hj
    have hj := Nat.le_of_ble_eq_true hj
    split at hs
    · rename_i hn
      have hnl := Nat.le_of_ble_eq_true hn
      refine ⟨fun b Q hc => ?_, fun l hl sc Q rest hsc hf a w ι ro hnc hg hn => ?_⟩
      · rw [contAt_none c0 j Q0 (by omega)] at hc; cases hc
      · unfold segS at hs
        split at hs
        · rename_i sc2 k2 hc
          obtain ⟨Q2, q1, q2⟩ := ctxS_sound hO hmix hG c0 0 k Q0 sc2 k2 Placed.whole hc hk
          rw [hsc] at q1
          cases q1
          subst hl
          rw [Nat.add_sub_cancel_left, hf] at hs
          simp only at hs
          split at hs
          · rename_i hns hz
            refine evCode_sound hO hmix hG rest 0 S _ _ a w ι ro (Placed.of_zero hz) (fun e => by rw [hns] at e; cases e) hnc hg hn hs fun e S' a' w' ι' ro' h1 h2 h3 h4 => ?_
            cases e with
            | normal => exact q2 .normal S' a' w' ι' ro' h1 h2 h3 h4
            | exit id => exact q2 (.exit id) S' a' w' ι' ro' h1 h2 h3 h4
            | ret => exact q2 .ret S' a' w' ι' ro' h1 h2 h3 h4
            | goto l =>
              simp only [scopeK] at h4
              split at h4
              · rename_i rest2 hf2
                obtain ⟨ι2, g1, g2, g3⟩ := headAt_sound h (100 + l) (hG _ _ h4).1 h1 h2 h3
                exact ⟨rest2, hf2, JumpWp.of ((hG _ _ h4).2.2 l rfl sc Q rest2 hsc hf2 a' w' ι2 ro' g1 g2 g3)⟩
              · cases h4
          · cases hs
        · cases hs
    · cases hs
  rename_i hj
  split at hs
  · cases hs
  rename_i hns
  split at hs
  · rename_i i b k' hc
    refine ⟨?_, fun l hl => absurd (Nat.ble_eq_true_of_le (show 100 ≤ j by omega)) (by rw [hj]; decide)⟩
    obtain ⟨e1, hnb, Q', hp, hk'⟩ := ctxK_sound hO hmix hG c0 0 j k Q0 i b k' Placed.whole hns hc hk
    rw [Nat.zero_add] at e1
    subst e1
    intro b2 Q2 hc2 a w ι ro hnc hg hn
    rw [hp.head] at hc2
    cases hc2
    refine LoopWp.round (evCode_sound hO hmix hG b (i + 1) S _ _ a w ι ro hp.inner (fun e => by rw [hnb] at e; cases e) hnc hg hn hs fun e S' a' w' ι' ro' h1 h2 h3 h4 => ?_)
    cases e with
    | normal =>
      obtain ⟨ι2, g1, g2, g3⟩ := headAt_sound h i (hG i _ h4).1 h1 h2 h3
      exact (hG i _ h4).2.1 b Q' hp.head a' w' ι2 ro' g1 g2 g3
    | exit id => exact hk' (.exit id) S' a' w' ι' ro' h1 h2 h3 h4
    | goto l => exact hk' (.goto l) S' a' w' ι' ro' h1 h2 h3 h4
    | ret => exact hk' .ret S' a' w' ι' ro' h1 h2 h3 h4
  · cases hs
theorem argsT_look : ∀ {args : List (TV E)} {i t : Nat} {x : AV E}, look (argsT args i) t = some x → i ≤ t ∧ ∃ y, args[t - i]? = some y ∧ x = expandA y.1 y.2
  | [], _, _, _, h => by cases h
  | ⟨ty, y⟩ :: r, i, t, x, h => by
    simp only [argsT, look] at h
    split at h
    · rename_i hb
      have := Nat.eq_of_beq_eq_true hb
      subst this
      cases h
      exact ⟨Nat.le_refl _, ⟨ty, y⟩, by simp, rfl⟩
    · rename_i hb
      obtain ⟨h1, z, h2, h3⟩ := argsT_look h
      exact ⟨by omega, z, by rw [show t - i = (t - (i + 1)) + 1 from by omega]; simpa using h2, h3⟩
theorem expandA_noCond {t : E.Ty} {x : E.Den t} : isCond (expandA t x) = false := by
  unfold expandA
  split
  · rfl
  · split <;> rfl
theorem argsT_noCond : ∀ (args : List (TV E)) (i : Nat), NoCond (argsT args i)
  | [], _ => fun p h => by cases h
  | ⟨t, x⟩ :: r, i => fun p h => by
    cases h with
    | head => exact expandA_noCond
    | tail _ h => exact argsT_noCond r (i + 1) p h
def resV (tmps : Array Value) : ResultVar → Sem Value
  | .tmp t => pure (tmps.getD t undef)
  | .cell q ty => do loadVar ty (← asAddr (tmps.getD q undef))
theorem valA_rep {S : ASt E} {a : Act} {w : World} {ι : Nat → Option Gh} {ro : Nat → Nat → Prop} (hg : Gam E w0 ro0 S a w ι ro) {r : ResultVar} {x : AV E} (h : valA S r = some x) :
    ∃ v, (resV a.tmps r).run P w = .ok v w ∧ Rep E w ro ι v x := by
  have hasm : AsmOk a [] := fun j b hb => by simp [hasAsm] at hb
  cases r with
  | tmp t =>
    cases h
    exact ⟨_, rfl, getA_rep (E := E) hg.tmps hasm (.tmp t)⟩
  | cell q ty =>
    have hv := getA_rep (E := E) hg.tmps hasm (.tmp q)
    change Rep E w ro ι (a.tmps.getD q undef) (slotA [] (look S.tmps q)) at hv
    generalize hu : a.tmps.getD q undef = u at hv
    obtain ⟨val, hrun, hr⟩ := run_load_done (S := S) hg.objs hv h
    refine ⟨val, ?_, hr⟩
    show (do loadVar ty (← asAddr (a.tmps.getD q undef)) : Sem Value).run P w = _
    rw [hu]
    simp only [Instr.loadAt, Sem.run_bind] at hrun ⊢
    cases u with
    | pointer p =>
      cases p with
      | some ad => simpa [Instr.sureAddr, asAddr] using hrun
      | none => simp [Instr.sureAddr, stuck, Result.andThen] at hrun
    | _ => simp [Instr.sureAddr, stuck, Result.andThen] at hrun
theorem resA_rep {S : ASt E} {a : Act} {w : World} {ι : Nat → Option Gh} {ro : Nat → Nat → Prop} (hg : Gam E w0 ro0 S a w ι ro) : ∀ {rs : List ResultVar} {Ts : List TypeId} {xs : List (TV E)}, resA S rs Ts = some xs →
    ∃ vs : List Value, (rs.mapM (resV a.tmps)).run P w = Result.ok vs w ∧ ArgsRep E w ro vs xs
  | [], [], xs, h => by cases h; exact ⟨[], by simp, trivial⟩
  | r :: rs, T :: Ts, xs, h => by
    unfold resA at h
    split at h
    · rename_i t ht
      split at h
      · rename_i v hv
        split at h
        · rename_i x hx
          split at h
          · rename_i ys hys
            cases h
            obtain ⟨u, hu, hr⟩ := valA_rep hg hv
            obtain ⟨us, hus, hrs⟩ := resA_rep hg hys
            exact ⟨u :: us, by rw [List.mapM_cons]; simp only [Sem.run_bind, hu, Result.andThen_ok, hus, Sem.run_pure], foldA_rep hr hx, hrs⟩
          · cases h
        · cases h
      · cases h
    · cases h
  | [], _ :: _, _, h => by cases h
  | _ :: _, [], _, h => by cases h
theorem below_of_grown {w w' : World} (h : w.grownBy w' none) : Below w.heap.size w w' := ⟨h.os, h.tape, h.output, h.size, fun k hk => h.block k hk (fun e => by cases e)⟩
def EndOk (E : Env P) (fn : Func) (res : List (TV E)) (w : World) (ro : Nat → Nat → Prop) : Exit → Act → World → Prop :=
  bodyPost P fn fun e w' => ∃ v, e = .returned v ∧ Below w.heap.size w w' ∧ RetRep E w' (fun k o => ro k o ∨ (w.heap.size ≤ k ∧ k < w'.heap.size)) v res
theorem endK_sound {fn : Func} {res : List (TV E)} {w : World} {ro : Nat → Nat → Prop} {e : AExit} {S' : ASt E} {a' : Act} {w' : World} {ι' : Nat → Option Gh} {ro' : Nat → Nat → Prop} (hnc' : NoCond S'.tmps) (hg' : Gam E ⟨w, none, none⟩ ro S' a' w' ι' ro') (hk : endK fn e S' = some res) :
    EndOk E fn res w ro e.toExit a' w' := by
  obtain ⟨_, hg'⟩ := freezeS_sound hnc' hg'
  generalize frzRo S'.objs ι' ro' = ro' at hg'
  have fin : resA (freezeS S') fn.results.toList fn.resultTypes.toList = some res → a'.defers = [] ∧ ∃ v, (results fn a'.tmps).run P w' = .ok v w' ∧
      (∃ v', Ending.returned v = .returned v' ∧ Below w.heap.size w w' ∧ RetRep E w' (fun k o => ro k o ∨ (w.heap.size ≤ k ∧ k < w'.heap.size)) v' res) := by
    intro hres
    obtain ⟨vs, hvs, hrep⟩ := resA_rep hg' hres
    have hmono : ArgsRep E w' (fun k o => ro k o ∨ (w.heap.size ≤ k ∧ k < w'.heap.size)) vs res := by
      have hmm : ∀ (vs : List Value) (rs : List (TV E)), ArgsRep E w' ro' vs rs → ArgsRep E w' (fun k o => ro k o ∨ (w.heap.size ≤ k ∧ k < w'.heap.size)) vs rs := by
        intro vs
        induction vs with
        | nil => intro rs h; cases rs <;> exact h
        | cons v vs ih =>
          intro rs h
          cases rs with
          | nil => exact h
          | cons r rs =>
            exact ⟨h.1.mono (fun k o hk => by
              rcases hg'.base.ronew k o hk with h | h
              · exact .inl h
              · rcases h with h | h
                · exact .inr ⟨h, hg'.base.rolt k o hk⟩
                · cases h) (fun _ _ _ => rfl), ih rs h.2⟩
      exact hmm vs res hrep
    have hl := (ArgsRep.at_ vs res hrep).1
    refine ⟨hg'.base.defers, if h : vs.length = 1 then vs[0] else .tuple vs.toArray, ?_, _, rfl, below_of_grown hg'.base.below, ?_⟩
    · show (do let vs ← fn.results.mapM (resV a'.tmps); pure (if h : vs.size = 1 then vs[0] else .tuple vs) : Sem Value).run P w' = _
      rw [Array.mapM_eq_mapM_toList]
      simp only [Sem.run_bind, Sem.run_map, hvs]
      simp [Result.andThen]
    · unfold RetRep
      split
      · rename_i t x
        match vs, hl, hmono with
        | [v], _, hm => exact hm.1
      · rename_i hne
        by_cases h1 : vs.length = 1
        · exfalso
          match res, hl.symm.trans h1, hne with
          | [⟨t, x⟩], _, hne => exact hne t x rfl
        · rw [dif_neg h1]
          exact ⟨vs, rfl, hmono⟩
  cases e with
  | normal => exact fin hk
  | ret => exact fin hk
  | exit id => cases hk
  | goto l => cases hk
def Ev (E : Env P) (fn : Func) (res : List (TV E)) (i : Nat) (S : ASt E) : Prop :=
  ∀ (w0 : World) ro0 n c, fn.body = some c → HdOk E ⟨w0, none, none⟩ ro0 n c (EndOk E fn res w0 ro0) i S
open Classical in
noncomputable def Gr (E : Env P) (fn : Func) (res : List (TV E)) (i : Nat) (S : ASt E) : Option (List (TV E)) := if Ev E fn res i S then some res else none
theorem Gr_of {fn : Func} {res : List (TV E)} {i : Nat} {S : ASt E} (h : Ev E fn res i S) : Gr E fn res i S = some res := if_pos h
theorem Gr_ev {fn : Func} {res r : List (TV E)} {i : Nat} {S : ASt E} (h : Gr E fn res i S = some r) : Ev E fn res i S := by
  unfold Gr at h
  split at h
  · assumption
  · cases h
theorem Ev.step (hO : OracleOk E O) (hmix : P.follows .mixedOrders = true) {fn : Func} {res : List (TV E)} {j : Nat} {S : ASt E} (hs : runL O h (Gr E fn res) fn j S = some res) : Ev E fn res j S := by
  intro w0 ro0 n c hc
  unfold runL at hs
  rw [hc] at hs
  exact segC_sound hO hmix (fun i S hi => ⟨rfl, Gr_ev hi w0 ro0 n c hc⟩) (fun e S' a' w' ι' ro' h1 h2 _ h4 => endK_sound h1 h2 h4) hs
theorem callsOk_of (hO : OracleOk E O) (hmix : P.follows .mixedOrders = true) {f : FuncId} {fn : Func} (hf : P.funcs[f]? = some fn) {args res : List (TV E)} (hr : runE O h (Gr E fn res) fn args = some res) : CallsOk E f args res := by
  unfold runE at hr
  split at hr
  · rename_i c hc
    intro w ro vals hargs hrolt
    obtain ⟨hlen, hat⟩ := ArgsRep.at_ vals args hargs
    refine calls_of_wp hf hc ?_
    have hg : Gam E ⟨w, none, none⟩ ro (startS fn args) { tmps := vals.toArray ++ Array.replicate (fn.ntmps - vals.toArray.size) undef, defers := [] } w (fun _ => none) ro := {
      base := ⟨⟨rfl, rfl, rfl, Nat.le_refl _, fun _ _ _ => rfl⟩, hrolt, fun k o h => .inl h, (fun id gh k h => by cases h), rfl, (fun q h => by cases h)⟩
      size := by simp [startS, hlen]
      tmps := fun t x hl => by
        obtain ⟨_, y, hy, rfl⟩ := argsT_look hl
        rw [Nat.sub_zero] at hy
        have hlt : t < vals.length := by rw [hlen]; exact (List.getElem?_eq_some_iff.1 hy).1
        have hv := List.getElem?_eq_getElem hlt
        refine ⟨vals[t], by simp [Array.getElem?_append, hlt], ?_⟩
        have hr : Rep E w ro (fun _ => none) vals[t] (expandA y.1 y.2) := expandA_rep (hat t _ y hv hy)
        have hc := expandA_noCond (E := E) (t := y.1) (x := y.2)
        generalize expandA y.1 y.2 = z at hr hc
        cases z <;> first | exact hr | cases hc
      objs := fun id o hl => by cases hl
      inj := fun id id' o o' gh gh' k hl => by cases hl
      fresh := fun _ _ => rfl
      ids := fun id o hl => by cases hl }
    exact evCode_sound (n := (startS fn args).n) (Q0 := EndOk E fn res w ro) (c0 := c) hO hmix (fun i S hi => ⟨rfl, Gr_ev hi w ro _ c hc⟩) c 0 (startS fn args) (endK fn) _ _ w _ ro Placed.whole (fun _ => rfl) (argsT_noCond args 0) hg rfl hr
      fun e S' a' w' ι' ro' h1 h2 _ h4 => endK_sound h1 h2 h4
  · cases hr
end
end Go.Proofs.YtjpmmpomloldmaaGreat.Mir
namespace Go.Proofs.YtjpmmpomloldmaaGreat.Mir
open Go Go.RowKit
theorem info_of {P : Program} {T a b c : Nat} (h : (P.info? T).map (fun i => (i.size, i.bytes, i.zero.map fun z => z.cells.size)) = some (a, b, some c)) (hc : c = a) :
    ∃ i z, P.info? T = some i ∧ i.size = a ∧ i.bytes = b ∧ i.zero = some z ∧ z.cells.size = a := by
  subst hc
  cases hi : P.info? T with
  | none => rw [hi] at h; cases h
  | some i =>
    rw [hi] at h
    simp only [Option.map_some, Option.some.injEq, Prod.mk.injEq] at h
    obtain ⟨h1, h2, h3⟩ := h
    cases hz : i.zero with
    | none => rw [hz] at h3; cases h3
    | some z =>
      rw [hz] at h3
      exact ⟨i, z, rfl, h1, h2, hz, by simpa using h3⟩
section
variable {Ty : Type} {Den : Ty → Type}
def dInt (k : IntKind) : DVal Den → Option Int
  | .int k' n => if k = k' then some n else none
  | _ => none
def dBl : DVal Den → Option Bool
  | .bool b => some b
  | _ => none
def dStr : DVal Den → Option (List UInt8)
  | .str s => some s
  | _ => none
def dSl (dec : DecidableEq Ty) (t : Ty) : DVal Den → Option (List (Den t))
  | .slice t' l => match dec t' t with
    | .isTrue h => some (h ▸ l)
    | .isFalse _ => none
  | .raw (.slice none 0 0) => some []
  | _ => none
def dFlt : DVal Den → Option Int
  | .flt n => some n
  | _ => none
def dCpx : DVal Den → Option (Int × Int)
  | .cpx a b => some (a, b)
  | _ => none
theorem dFlt_le {c : DVal Den} {n : Int} (h : dFlt c = some n) : DLe c (.flt n) := by
  unfold dFlt at h
  split at h
  · cases h; exact .inl rfl
  · cases h
theorem dCpx_le {c : DVal Den} {n : Int × Int} (h : dCpx c = some n) : DLe c (.cpx n.1 n.2) := by
  unfold dCpx at h
  split at h
  · cases h; exact .inl rfl
  · cases h
def dFn : DVal Den → Option Nat
  | .raw (.func (.func f) ⟨[]⟩ ⟨[]⟩) => some f
  | _ => none
theorem dFn_le {c : DVal Den} {n : Nat} (h : dFn c = some n) : DLe c (.raw (.func (.func n) #[] #[])) := by
  unfold dFn at h
  split at h
  · cases h; exact .inl rfl
  · cases h
theorem dInt_le {k : IntKind} {c : DVal Den} {n : Int} (h : dInt k c = some n) : DLe c (.int k n) := by
  unfold dInt at h
  split at h
  · split at h
    · rename_i e; subst e; cases h; exact .inl rfl
    · cases h
  · cases h
theorem dBl_le {c : DVal Den} {n : Bool} (h : dBl c = some n) : DLe c (.bool n) := by
  unfold dBl at h
  split at h
  · cases h; exact .inl rfl
  · cases h
theorem dStr_le {c : DVal Den} {n : List UInt8} (h : dStr c = some n) : DLe c (.str n) := by
  unfold dStr at h
  split at h
  · cases h; exact .inl rfl
  · cases h
theorem dSl_le {dec : DecidableEq Ty} {t : Ty} {c : DVal Den} {l : List (Den t)} (h : dSl dec t c = some l) : DLe c (.slice t l) := by
  unfold dSl at h
  split at h
  · split at h
    · rename_i e _; subst e; cases h; exact .inl rfl
    · cases h
  · cases h; exact .inr ⟨rfl, t, rfl⟩
  · cases h
end
section
variable {P : Program} {E : Env P}
abbrev FnW (E : Env P) := List (TV E) → Option (Bool × List (TV E))
abbrev FnR (E : Env P) := List (TV E) → Option (Bool × ((t : E.Ty) × List (E.Den t)))
abbrev FnM (E : Env P) := (t : E.Ty) → List (E.Den t) → List (TV E) → Option (Bool × Bool × List (E.Den t))
def orac (l : List (FuncId × FnW E)) (m : List (FuncId × FnR E) := []) (u : List (FuncId × FnM E) := []) (gr : List (FuncId × E.Ty) := []) : Oracle E where
  call := fun f args => match look l f with
    | some F => F args
    | none => none
  isFresh := fun f => match look m f with
    | some _ => true
    | none => false
  fresh := fun f args => match look m f with
    | some F => F args
    | none => none
  isMut := fun f => match look u f with
    | some _ => true
    | none => false
  grow := fun f => look gr f
  rowf := fun f t l xs => match look u f with
    | some F => F t l xs
    | none => none
  inl := .nil
def FreshOk (E : Env P) (f : FuncId) (F : FnR E) : Prop :=
  (∃ fn, P.funcs[f]? = some fn ∧ (fn.name == "runtime.NumGoroutine") = false ∧ fn.body.isNone = false) ∧ ∀ args t l, F args = some (true, ⟨t, l⟩) → CallsFresh E f args t l
def MutOk (E : Env P) (f : FuncId) (F : FnM E) : Prop :=
  (∃ fn, P.funcs[f]? = some fn ∧ (fn.name == "runtime.NumGoroutine") = false ∧ fn.body.isNone = false) ∧ ∀ t l xs back l', F t l xs = some (true, back, l') → CallsMut E f t l xs back l'
def GrowOk (E : Env P) (f : FuncId) (t : E.Ty) : Prop :=
  (∃ fn, P.funcs[f]? = some fn ∧ (fn.name == "runtime.NumGoroutine") = false ∧ fn.body.isNone = false) ∧ CallsGrow E f t
def AllGrow (l : List (FuncId × E.Ty)) : Prop := ∀ p ∈ l, GrowOk E p.1 p.2
theorem AllGrow.nil : AllGrow (E := E) [] := fun p h => by cases h
theorem AllGrow.cons {f : FuncId} {t : E.Ty} {l : List (FuncId × E.Ty)} (h : GrowOk E f t) (hl : AllGrow l) : AllGrow ((f, t) :: l) := fun p hp => by
  cases hp with
  | head => exact h
  | tail _ hp => exact hl p hp
def AllMut (l : List (FuncId × FnM E)) : Prop := ∀ p ∈ l, MutOk E p.1 p.2
def AllOk (l : List (FuncId × FnW E)) : Prop := ∀ p ∈ l, FnOk E p.1 p.2
def AllFresh (l : List (FuncId × FnR E)) : Prop := ∀ p ∈ l, FreshOk E p.1 p.2
theorem orac_ok {l : List (FuncId × FnW E)} {m : List (FuncId × FnR E)} {u : List (FuncId × FnM E)} {gr : List (FuncId × E.Ty)} (h : AllOk l) (hm : AllFresh m) (hu : AllMut u) (hg : AllGrow gr) : OracleOk E (orac l m u gr) := by
  refine ⟨fun f args res hr => ?_, fun f args t x hr => ?_, fun f t x rest back x' hr => ?_, fun f t hr => hg _ (look_mem _ _ _ hr), (fun f args objs next k rr h => by cases h), (fun f T h => by cases h)⟩
  · simp only [orac] at hr
    split at hr
    · rename_i F hF
      have := h _ (look_mem _ _ _ hF)
      exact ⟨this.1, this.2 args res hr⟩
    · cases hr
  · simp only [orac] at hr
    split at hr
    · rename_i F hF
      have := hm _ (look_mem _ _ _ hF)
      exact ⟨this.1, this.2 args t x hr⟩
    · cases hr
  · simp only [orac] at hr
    split at hr
    · rename_i F hF
      have := hu _ (look_mem _ _ _ hF)
      exact ⟨this.1, this.2 t x rest back x' hr⟩
    · cases hr
theorem AllOk.nil : AllOk (E := E) [] := fun p h => by cases h
theorem AllFresh.nil : AllFresh (E := E) [] := fun p h => by cases h
theorem AllOk.cons {f : FuncId} {F : FnW E} {l : List (FuncId × FnW E)} (h : FnOk E f F) (hl : AllOk l) : AllOk ((f, F) :: l) := fun p hp => by
  cases hp with
  | head => exact h
  | tail _ hp => exact hl p hp
theorem AllMut.nil : AllMut (E := E) [] := fun p h => by cases h
theorem AllMut.cons {f : FuncId} {F : FnM E} {l : List (FuncId × FnM E)} (h : MutOk E f F) (hl : AllMut l) : AllMut ((f, F) :: l) := fun p hp => by
  cases hp with
  | head => exact h
  | tail _ hp => exact hl p hp
theorem AllFresh.cons {f : FuncId} {F : FnR E} {l : List (FuncId × FnR E)} (h : FreshOk E f F) (hl : AllFresh l) : AllFresh ((f, F) :: l) := fun p hp => by
  cases hp with
  | head => exact h
  | tail _ hp => exact hl p hp
def castV (t : E.Ty) (v : TV E) : Option (E.Den t) := castD v.1 t v.2
theorem castV_eq {t : E.Ty} {v : TV E} {x : E.Den t} (h : castV t v = some x) : v = ⟨t, x⟩ := by
  unfold castV castD at h
  cases hd : E.dec v.1 t with
  | isFalse hn => rw [hd] at h; cases h
  | isTrue he =>
    rw [hd] at h
    obtain ⟨t', y⟩ := v
    simp only at he
    subst he
    cases h
    rfl
def fn0 (t : E.Ty) (ok : Bool) (F : E.Den t) : FnW E
  | [] => some (ok, [⟨t, F⟩])
  | _ => none
def fn1 (a t : E.Ty) (ok : E.Den a → Bool) (F : E.Den a → E.Den t) : FnW E
  | [x] => match castV a x with
    | some x => some (ok x, [⟨t, F x⟩])
    | none => none
  | _ => none
def fn2 (a b t : E.Ty) (ok : E.Den a → E.Den b → Bool) (F : E.Den a → E.Den b → E.Den t) : FnW E
  | [x, y] => match castV a x with
    | some x => match castV b y with
      | some y => some (ok x y, [⟨t, F x y⟩])
      | none => none
    | none => none
  | _ => none
def fn12 (a t u : E.Ty) (ok : E.Den a → Bool) (F : E.Den a → E.Den t) (G : E.Den a → E.Den u) : FnW E
  | [x] => match castV a x with
    | some x => some (ok x, [⟨t, F x⟩, ⟨u, G x⟩])
    | none => none
  | _ => none
end
section
variable {P : Program} {E : Env P} {O : Oracle E} {masks : Hint E} {f : FuncId} {fn : Func}
theorem fnOk_of (hO : OracleOk E O) (hmix : P.follows .mixedOrders = true) (hf : P.funcs[f]? = some fn) (hn : (fn.name == "runtime.NumGoroutine") = false) (hb : fn.body.isNone = false) {F : FnW E}
    (h : ∀ args res, F args = some (true, res) → runE O masks (Gr E fn res) fn args = some res) : FnOk E f F :=
  ⟨⟨fn, hf, hn, hb⟩, fun args res hr => callsOk_of hO hmix hf (h args res hr)⟩
theorem fn0_ok {t : E.Ty} {ok : Bool} {F : E.Den t} (hO : OracleOk E O) (hmix : P.follows .mixedOrders = true) (hf : P.funcs[f]? = some fn) (hn : (fn.name == "runtime.NumGoroutine") = false) (hb : fn.body.isNone = false)
    (h : ok = true → runE O masks (Gr E fn [⟨t, F⟩]) fn [] = some [⟨t, F⟩]) : FnOk E f (fn0 t ok F) := by
  refine fnOk_of (masks := masks) hO hmix hf hn hb fun args res hr => ?_
  unfold fn0 at hr
  split at hr
  · cases hr; exact h rfl
  · cases hr
theorem fn1_ok {a t : E.Ty} {ok : E.Den a → Bool} {F : E.Den a → E.Den t} (hO : OracleOk E O) (hmix : P.follows .mixedOrders = true) (hf : P.funcs[f]? = some fn) (hn : (fn.name == "runtime.NumGoroutine") = false) (hb : fn.body.isNone = false)
    (h : ∀ x, ok x = true → runE O masks (Gr E fn [⟨t, F x⟩]) fn [⟨a, x⟩] = some [⟨t, F x⟩]) : FnOk E f (fn1 a t ok F) := by
  refine fnOk_of (masks := masks) hO hmix hf hn hb fun args res hr => ?_
  unfold fn1 at hr
  split at hr
  · split at hr
    · rename_i x hx
      injection hr with hr
      injection hr with h1 h2
      subst h2
      rw [castV_eq hx]
      exact h _ h1
    · cases hr
  · cases hr
theorem fn2_ok {a b t : E.Ty} {ok : E.Den a → E.Den b → Bool} {F : E.Den a → E.Den b → E.Den t} (hO : OracleOk E O) (hmix : P.follows .mixedOrders = true) (hf : P.funcs[f]? = some fn) (hn : (fn.name == "runtime.NumGoroutine") = false) (hb : fn.body.isNone = false)
    (h : ∀ x y, ok x y = true → runE O masks (Gr E fn [⟨t, F x y⟩]) fn [⟨a, x⟩, ⟨b, y⟩] = some [⟨t, F x y⟩]) : FnOk E f (fn2 a b t ok F) := by
  refine fnOk_of (masks := masks) hO hmix hf hn hb fun args res hr => ?_
  unfold fn2 at hr
  split at hr
  · split at hr
    · rename_i x hx
      split at hr
      · rename_i y hy
        injection hr with hr
        injection hr with h1 h2
        subst h2
        rw [castV_eq hx, castV_eq hy]
        exact h _ _ h1
      · cases hr
    · cases hr
  · cases hr
theorem fn12_ok {a t u : E.Ty} {ok : E.Den a → Bool} {F : E.Den a → E.Den t} {G : E.Den a → E.Den u} (hO : OracleOk E O) (hmix : P.follows .mixedOrders = true) (hf : P.funcs[f]? = some fn) (hn : (fn.name == "runtime.NumGoroutine") = false) (hb : fn.body.isNone = false)
    (h : ∀ x, ok x = true → runE O masks (Gr E fn [⟨t, F x⟩, ⟨u, G x⟩]) fn [⟨a, x⟩] = some [⟨t, F x⟩, ⟨u, G x⟩]) : FnOk E f (fn12 a t u ok F G) := by
  refine fnOk_of (masks := masks) hO hmix hf hn hb fun args res hr => ?_
  unfold fn12 at hr
  split at hr
  · split at hr
    · rename_i x hx
      injection hr with hr
      injection hr with h1 h2
      subst h2
      rw [castV_eq hx]
      exact h _ h1
    · cases hr
  · cases hr
end
end Go.Proofs.YtjpmmpomloldmaaGreat.Mir
namespace Go.Proofs.YtjpmmpomloldmaaGreat.Mir
open Go Go.RowKit
section
variable {P : Program} {E : Env P}
def argsI : List (AV E) → Nat → List (Nat × AV E)
  | [], _ => []
  | v :: r, i => (i, bif isCond v then .any else v) :: argsI r (i + 1)
def startI (fn : Func) (args : List (AV E)) (objs : List (Nat × AObj E)) (next : Nat) : ASt E := ⟨args.length + (fn.ntmps - args.length), argsI args 0, objs, next⟩
def valsA (S : ASt E) : List ResultVar → Option (List (AV E))
  | [] => some []
  | r :: rs => match valA S r with
    | some v => (match isCond v with
      | true => none
      | false => (match valsA S rs with
        | some vs => some (v :: vs)
        | none => none))
    | none => none
def endI {R : Type} (fn : Func) (k : AV E → List (Nat × AObj E) → Nat → Option R) (e : AExit) (S : ASt E) : Option R := match e with
  | .exit _ => none
  | .goto _ => none
  | _ => match valsA S fn.results.toList with
    | some [v] => k v S.objs S.next
    | some vs => k (.tup vs) S.objs S.next
    | none => none
def loopU {R : Type} (f : ASt E → (AExit → ASt E → Option R) → Option R) : Nat → ASt E → (AExit → ASt E → Option R) → Option R
  | 0, _, _ => none
  | m + 1, S, k => f S (seqK (fun S' => loopU f m S' k) k)
def evU {R : Type} (O : Oracle E) (h : Hint E) (m : Nat) : Code → ASt E → (AExit → ASt E → Option R) → Option R
  | .skip, S, k => k .normal S
  | .region id ops dr, S, k => splitK (atN h.split id) (openS (atN h.opn id) (match memN h.frz id with | true => freezeS S | false => S)) fun S' => evRegL (memN h.lst id) O ops dr S' (k .normal)
  | .seq x y, S, k => evU O h m x S (seqK (fun S' => evU O h m y S' k) k)
  | .cond c x y, S, k => match getA S.tmps [] c with
    | .d (.bool b) => bif b then evU O h m x S k else evU O h m y S k
    | _ => none
  | .block id body, S, k => evU O h m body S (blockK id k)
  | .loop b, S, k => loopU (evU O h m b) m S k
  | .exit id, S, k => k (.exit id) S
  | .ret, S, k => k .ret S
  | _, _, _ => none
theorem evU_sound {R : Type} {O : Oracle E} (hO : OracleOk E O) (hmix : P.follows .mixedOrders = true) {h : Hint E} {m n : Nat} {w0 : Start} {ro0 : Nat → Nat → Prop} {rr : R} :
    ∀ (c : Code) (S : ASt E) (k : AExit → ASt E → Option R) (Q : Exit → Act → World → Prop) (a : Act) (w : World) (ι : Nat → Option Gh) (ro : Nat → Nat → Prop),
    NoCond S.tmps → Gam E w0 ro0 S a w ι ro → S.n = n → evU O h m c S k = some rr →
    (∀ e S' a' w' ι' ro', NoCond S'.tmps → Gam E w0 ro0 S' a' w' ι' ro' → S'.n = n → k e S' = some rr → Q e.toExit a' w') → c.wp P Q a w := by
  intro c
  induction c with
  | skip => intro S k Q a w ι ro hnc hg hn h hk; exact wp_skip (hk .normal S a w ι ro hnc hg hn h)
  | ret => intro S k Q a w ι ro hnc hg hn h hk; exact wp_ret (hk .ret S a w ι ro hnc hg hn h)
  | exit id => intro S k Q a w ι ro hnc hg hn h hk; exact wp_exit (hk (.exit id) S a w ι ro hnc hg hn h)
  | region id ops draw =>
    intro S k Q a w ι ro hnc hg hn hh hk
    have go : ∀ (S : ASt E) (ro : Nat → Nat → Prop), NoCond S.tmps → Gam E w0 ro0 S a w ι ro → S.n = n → evRegL (memN h.lst id) O ops draw S (k .normal) = some rr → (Code.region id ops draw).wp P Q a w := fun S ro hnc hg hn hq =>
      evRegL_sound hO hmix hnc hg (fun S' a' w' ι' ro' h1 h2 h3 h4 => hk .normal S' a' w' ι' ro' h1 h2 (h3.trans hn) h4) hq
    simp only [evU] at hh
    have fin : ∀ (l1 : List (Nat × Nat)) (l2 : List Nat) (S : ASt E) (ro : Nat → Nat → Prop), NoCond S.tmps → Gam E w0 ro0 S a w ι ro → S.n = n → splitK l1 (openS l2 S) (fun S' => evRegL (memN h.lst id) O ops draw S' (k .normal)) = some rr → (Code.region id ops draw).wp P Q a w := by
      intro l1 l2 S ro hnc hg hn h
      obtain ⟨ro1, g1, g2, g3⟩ := openS_sound l2 S ro hnc hg
      obtain ⟨S2, g4, g5, g6, g7⟩ := splitK_sound _ _ g1 g2 h
      exact go S2 ro1 g4 g5 (g6.trans (g3.trans hn)) g7
    split at hh
    · obtain ⟨h1, h2⟩ := freezeS_sound hnc hg
      exact fin _ _ (freezeS S) _ h1 h2 hn hh
    · exact fin _ _ S ro hnc hg hn hh
  | seq x y ihx ihy =>
    intro S k Q a w ι ro hnc hg hn h hk
    refine wp_seq (ihx S _ _ a w ι ro hnc hg hn h fun e S' a' w' ι' ro' h1 h2 h3 h4 => ?_)
    cases e with
    | normal => exact ihy S' k Q a' w' ι' ro' h1 h2 h3 h4 hk
    | exit id => exact hk (.exit id) S' a' w' ι' ro' h1 h2 h3 h4
    | goto l => exact hk (.goto l) S' a' w' ι' ro' h1 h2 h3 h4
    | ret => exact hk .ret S' a' w' ι' ro' h1 h2 h3 h4
  | cond c x y ihx ihy =>
    intro S k Q a w ι ro hnc hg hn h hk
    have hc := getA_rep (E := E) (asm := []) hg.tmps (fun j b hb => by simp [hasAsm] at hb) c
    simp only [evU] at h
    split at h
    · rename_i b hb
      rw [hb] at hc
      have hc := hc.bool_inv
      cases b with
      | true => exact wp_cond_true hc (ihx S k Q a w ι ro hnc hg hn h hk)
      | false => exact wp_cond_false hc (ihy S k Q a w ι ro hnc hg hn h hk)
    · cases h
  | block id body ih =>
    intro S k Q a w ι ro hnc hg hn h hk
    refine wp_block (ih S _ _ a w ι ro hnc hg hn h fun e S' a' w' ι' ro' h1 h2 h3 h4 => ?_)
    cases e with
    | normal => exact hk .normal S' a' w' ι' ro' h1 h2 h3 h4
    | goto l => exact hk (.goto l) S' a' w' ι' ro' h1 h2 h3 h4
    | ret => exact hk .ret S' a' w' ι' ro' h1 h2 h3 h4
    | exit i =>
      simp only [AExit.toExit, Exit.inBlock, blockK] at h4 ⊢
      cases hb : Nat.beq i id with
      | true =>
        rw [hb] at h4
        rw [if_pos (Nat.eq_of_beq_eq_true hb)]
        exact hk .normal S' a' w' ι' ro' h1 h2 h3 h4
      | false =>
        rw [hb] at h4
        rw [if_neg (fun e => by subst e; simp at hb)]
        exact hk (.exit i) S' a' w' ι' ro' h1 h2 h3 h4
  | loop body ih =>
    intro S k Q a w ι ro hnc hg hn hh hk
    have rounds : ∀ (f : Nat) (S : ASt E) (a : Act) (w : World) (ι : Nat → Option Gh) (ro : Nat → Nat → Prop), NoCond S.tmps → Gam E w0 ro0 S a w ι ro → S.n = n → loopU (evU O h m body) f S k = some rr → LoopWp P body Q a w := by
      intro f
      induction f with
      | zero => intro S a w ι ro _ _ _ h; cases h
      | succ f ihf =>
        intro S a w ι ro hnc hg hn h
        refine LoopWp.round (ih S _ _ a w ι ro hnc hg hn h fun e S' a' w' ι' ro' h1 h2 h3 h4 => ?_)
        cases e with
        | normal => exact ihf S' a' w' ι' ro' h1 h2 h3 h4
        | exit id => exact hk (.exit id) S' a' w' ι' ro' h1 h2 h3 h4
        | goto l => exact hk (.goto l) S' a' w' ι' ro' h1 h2 h3 h4
        | ret => exact hk .ret S' a' w' ι' ro' h1 h2 h3 h4
    exact (rounds m S a w ι ro hnc hg hn hh).wp
  | _ => intro S k Q a w ι ro hnc hg hn h hk; cases h
def hintOf (hs : List (FuncId × Hint E)) (f : FuncId) : Hint E := match look hs f with
  | some h => h
  | none => {}
def mkI (O : Oracle E) (tbl : List (FuncId × Func)) (hs : List (FuncId × Hint E)) : Nat → Inl E
  | 0 => .nil
  | n + 1 => ⟨fun f => (look tbl f).isSome, fun f args objs next k => match look tbl f with
    | some fn => match fn.body with
      | some c => evU { O with inl := mkI O tbl hs n } (hintOf hs f) (hintOf hs f).rounds c (startI fn args objs next) (endI fn k)
      | none => none
    | none => none⟩
def withI (O : Oracle E) (tbl : List (FuncId × Func)) (hs : List (FuncId × Hint E) := []) (d : Nat := 4) : Oracle E := { O with inl := mkI O tbl hs d }
theorem argsI_look : ∀ {args : List (AV E)} {i t : Nat} {x : AV E}, look (argsI args i) t = some x → i ≤ t ∧ ∃ y, args[t - i]? = some y ∧ x = bif isCond y then .any else y
  | [], _, _, _, h => by cases h
  | v :: r, i, t, x, h => by
    simp only [argsI, look] at h
    split at h
    · rename_i hb
      have := Nat.eq_of_beq_eq_true hb
      subst this
      cases h
      exact ⟨Nat.le_refl _, v, by simp, rfl⟩
    · rename_i hb
      obtain ⟨h1, z, h2, h3⟩ := argsI_look h
      have hne : t ≠ i := fun e => by subst e; omega
      exact ⟨by omega, z, by rw [show t - i = (t - (i + 1)) + 1 from by omega]; simpa using h2, h3⟩
theorem argsI_noCond : ∀ (args : List (AV E)) (i : Nat), NoCond (argsI args i)
  | [], _ => fun p h => by cases h
  | v :: r, i => fun p h => by
    cases h with
    | head =>
      cases hc : isCond v with
      | true => rfl
      | false => exact hc
    | tail _ h => exact argsI_noCond r (i + 1) p h
theorem valsA_rep {w0 : Start} {ro0 : Nat → Nat → Prop} {S : ASt E} {a : Act} {w : World} {ι : Nat → Option Gh} {ro : Nat → Nat → Prop} (hg : Gam E w0 ro0 S a w ι ro) : ∀ {rs : List ResultVar} {xs : List (AV E)}, valsA S rs = some xs →
    ∃ vs : List Value, (rs.mapM (resV a.tmps)).run P w = Result.ok vs w ∧ vs.length = xs.length ∧ ∀ (i : Nat) v x, vs[i]? = some v → xs[i]? = some x → Rep E w ro ι v x ∧ isCond x = false
  | [], xs, h => by cases h; exact ⟨[], by simp, rfl, fun i v x hv => by simp at hv⟩
  | r :: rs, xs, h => by
    unfold valsA at h
    split at h
    · rename_i v hv
      split at h
      · cases h
      · rename_i hc
        split at h
        · rename_i ys hys
          cases h
          obtain ⟨u, hu, hr⟩ := valA_rep hg hv
          obtain ⟨us, hus, hl, hrs⟩ := valsA_rep hg hys
          refine ⟨u :: us, by rw [List.mapM_cons]; simp only [Sem.run_bind, hu, Result.andThen_ok, hus, Sem.run_pure], by simp [hl], fun i v' x' h1 h2 => ?_⟩
          cases i with
          | zero => simp at h1 h2; subst h1; subst h2; exact ⟨hr, hc⟩
          | succ i => exact hrs i v' x' (by simpa using h1) (by simpa using h2)
        · cases h
    · cases h
def EndIP {R : Type} (E : Env P) (k : AV E → List (Nat × AObj E) → Nat → Option R) (rr : R) (w0 : Start) (ro0 : Nat → Nat → Prop) (e : Ending) (w' : World) : Prop :=
  ∃ (v : Value) (x : AV E) (objs' : List (Nat × AObj E)) (next' : Nat) (ι' : Nat → Option Gh) (ro' : Nat → Nat → Prop) (a' : Act), e = .returned v ∧ k x objs' next' = some rr ∧ Rep E w' ro' ι' v x ∧ Base w0 ro0 a' w' ι' ro' ∧
    (∀ (id : Nat) o, look objs' id = some o → ObjOk E w' ro' ι' id o) ∧ Inj E objs' ι' ∧ (∀ id, next' ≤ id → ι' id = none) ∧ (∀ id o, look objs' id = some o → id < next')
theorem endI_sound {R : Type} {fn : Func} {k : AV E → List (Nat × AObj E) → Nat → Option R} {rr : R} {w0 : Start} {ro0 : Nat → Nat → Prop} {e : AExit} {S' : ASt E} {a' : Act} {w' : World} {ι' : Nat → Option Gh} {ro' : Nat → Nat → Prop} (hg' : Gam E w0 ro0 S' a' w' ι' ro') (hk : endI fn k e S' = some rr) :
    bodyPost P fn (EndIP E k rr w0 ro0) e.toExit a' w' := by
  have fin : (match valsA S' fn.results.toList with | some [v] => k v S'.objs S'.next | some vs => k (.tup vs) S'.objs S'.next | none => none) = some rr → a'.defers = [] ∧ ∃ v, (results fn a'.tmps).run P w' = .ok v w' ∧ EndIP E k rr w0 ro0 (.returned v) w' := by
    intro h
    cases hv : valsA S' fn.results.toList with
    | none => rw [hv] at h; cases h
    | some xs =>
      rw [hv] at h
      obtain ⟨vs, hvs, hl, hrep⟩ := valsA_rep hg' hv
      refine ⟨hg'.base.defers, if h : vs.length = 1 then vs[0] else .tuple vs.toArray, ?_, ?_⟩
      · show (do let vs ← fn.results.mapM (resV a'.tmps); pure (if h : vs.size = 1 then vs[0] else .tuple vs) : Sem Value).run P w' = _
        rw [Array.mapM_eq_mapM_toList]
        simp only [Sem.run_bind, Sem.run_map, hvs]
        simp [Result.andThen]
      · by_cases h1 : vs.length = 1
        · rw [dif_pos h1]
          match xs, hl, h, hrep with
          | [x], _, h, hrep => exact ⟨_, x, _, _, ι', ro', a', rfl, h, (hrep 0 _ x (List.getElem?_eq_getElem (by omega)) rfl).1, hg'.base, hg'.objs, hg'.inj, hg'.fresh, hg'.ids⟩
          | [], hl, _, _ => exact absurd (h1.symm.trans hl) (by simp)
          | _ :: _ :: _, hl, _, _ => exact absurd (h1.symm.trans hl) (by simp)
        · rw [dif_neg h1]
          have h : k (.tup xs) S'.objs S'.next = some rr := by
            match xs, hl, h with
            | [x], hl, _ => exact absurd hl h1
            | [], _, h => exact h
            | _ :: _ :: _, _, h => exact h
          exact ⟨_, .tup xs, _, _, ι', ro', a', rfl, h, .tup _ _ (by simpa using hl) (fun j v x hv hx => (hrep j v x (by simpa using hv) hx).1), hg'.base, hg'.objs, hg'.inj, hg'.fresh, hg'.ids⟩
  cases e with
  | normal => exact fin hk
  | ret => exact fin hk
  | exit id => cases hk
  | goto l => cases hk
def TblOk (P : Program) (tbl : List (FuncId × Func)) : Prop := ∀ p ∈ tbl, P.funcs[p.1]? = some p.2 ∧ (p.2.name == "runtime.NumGoroutine") = false ∧ p.2.body.isNone = false
theorem TblOk.nil : TblOk P [] := fun p h => by cases h
theorem TblOk.cons {f : FuncId} {fn : Func} {l : List (FuncId × Func)} (h1 : P.funcs[f]? = some fn) (h2 : (fn.name == "runtime.NumGoroutine") = false) (h3 : fn.body.isNone = false) (hl : TblOk P l) : TblOk P ((f, fn) :: l) := fun p hp => by
  cases hp with
  | head => exact ⟨h1, h2, h3⟩
  | tail _ hp => exact hl p hp
theorem mkI_ok {O : Oracle E} (hO : OracleOk E O) (hmix : P.follows .mixedOrders = true) {tbl : List (FuncId × Func)} {hs : List (FuncId × Hint E)} (ht : TblOk P tbl) : ∀ n, InlOk E (mkI O tbl hs n)
  | 0 => fun f args objs next k rr h => by cases h
  | n + 1 => fun f args objs next k rr h => by
    have hO' : OracleOk E { O with inl := mkI O tbl hs n } := ⟨hO.1, hO.2.1, hO.2.2.1, hO.2.2.2.1, mkI_ok hO hmix ht n, hO.2.2.2.2.2⟩
    simp only [mkI] at h
    split at h
    · rename_i fn hl
      obtain ⟨hf, hname, hbody⟩ := ht _ (look_mem _ _ _ hl)
      split at h
      · rename_i c hc
        refine ⟨⟨fn, hf, hname, hbody⟩, fun w0 ro0 a w ι ro vals hb ho hi hfr hids hlen hargs => ?_⟩
        let w1 : Start := ⟨w0.w, w0.x, some ⟨w, ro, ι⟩⟩
        refine (calls_of_wp (R := EndIP E k rr w1 ro0) hf hc ?_).mono fun e w' he => by
          obtain ⟨v, x, objs', next', ι', ro', a', h1, h2, h3, h4, h5, h6, h7, h8⟩ := he
          obtain ⟨q1, q2⟩ := h4.keep _ rfl
          exact ⟨v, x, objs', next', ι', ro', h1, h2, h3, ⟨h4.below, h4.rolt, h4.ronew, h4.ilt, hb.defers, fun q hq => by
            obtain ⟨p1, p2⟩ := hb.keep q hq
            exact ⟨fun k o h => ⟨(q1 k o (p1 k o h).1).1, (q1 k o (p1 k o h).1).2.trans (p1 k o h).2⟩, fun id gh h => q2 id gh (p2 id gh h)⟩⟩, h5, h6, h7, h8, q1, q2⟩
        have hg : Gam E w1 ro0 (startI fn args objs next) { tmps := vals.toArray ++ Array.replicate (fn.ntmps - vals.toArray.size) undef, defers := [] } w ι ro := {
          base := ⟨hb.below, hb.rolt, hb.ronew, hb.ilt, rfl, fun q hq => by cases hq; exact ⟨fun k o h => ⟨h, rfl⟩, fun _ _ h => h⟩⟩
          size := by simp [startI, hlen]
          tmps := fun t x hl => by
            obtain ⟨_, y, hy, rfl⟩ := argsI_look hl
            rw [Nat.sub_zero] at hy
            have hlt : t < vals.length := by rw [hlen]; exact (List.getElem?_eq_some_iff.1 hy).1
            have hv := List.getElem?_eq_getElem hlt
            refine ⟨vals[t], by simp [Array.getElem?_append, hlt], ?_⟩
            have hr : Rep E w ro ι vals[t] y := hargs t _ y hv hy
            cases hcy : isCond y with
            | true => exact Rep.any _
            | false =>
              rw [cond_false]
              cases y <;> first | exact hr | cases hcy
          objs := ho
          inj := hi
          fresh := hfr
          ids := hids }
        exact evU_sound (n := (startI fn args objs next).n) hO' hmix c (startI fn args objs next) (endI fn k) _ _ w _ ro (argsI_noCond args 0) hg rfl h
          fun e S' a' w' ι' ro' _ h2 _ h4 => endI_sound h2 h4
      · cases h
    · cases h
theorem withI_ok {O : Oracle E} (hO : OracleOk E O) (hmix : P.follows .mixedOrders = true) {tbl : List (FuncId × Func)} {hs : List (FuncId × Hint E)} {d : Nat} (ht : TblOk P tbl) : OracleOk E (withI O tbl hs d) := ⟨hO.1, hO.2.1, hO.2.2.1, hO.2.2.2.1, mkI_ok hO hmix ht d, hO.2.2.2.2.2⟩
def withC (O : Oracle E) (f : FuncId) (T : TypeId) : Oracle E := { O with cc := some (f, T) }
theorem withC_ok {O : Oracle E} (hO : OracleOk E O) {f : FuncId} {T : TypeId} (hf : ∃ fn, P.funcs[f]? = some fn ∧ (fn.name == "runtime.NumGoroutine") = false ∧ fn.body.isNone = false) (h : CopyOk P f T) : OracleOk E (withC O f T) :=
  ⟨hO.1, hO.2.1, hO.2.2.1, hO.2.2.2.1, hO.2.2.2.2.1, fun g U hq => by cases hq; exact ⟨hf, h⟩⟩
end
end Go.Proofs.YtjpmmpomloldmaaGreat.Mir
namespace Go.Proofs.YtjpmmpomloldmaaGreat.Mir
open Go Go.RowKit
section
variable {P : Program} {E : Env P}
abbrev TL (E : Env P) := (t : E.Ty) × List (E.Den t)
def rowA (S : ASt E) : AV E → Option (TL E)
  | .row _ _ id => match look S.objs id with
    | some (.row t l) => some ⟨t, l⟩
    | _ => none
  | _ => none
def endM (fn : Func) (e : AExit) (S : ASt E) : Option (TL E) := match e with
  | .exit _ => none
  | .goto _ => none
  | _ => match fn.results.toList with
    | [r] => (match valA S r with
      | some v => rowA S v
      | none => none)
    | _ => none
def runLM (O : Oracle E) (h : Hint E) (G : Nat → ASt E → Option (TL E)) (fn : Func) (j : Nat) (S : ASt E) : Option (TL E) := match fn.body with
  | some c => segC O h G c j S (endM fn)
  | none => none
def EndMP (E : Env P) (res : TL E) (w : World) (gh : Gh) (ro : Nat → Nat → Prop) (e : Ending) (w' : World) : Prop := ∃ (gh' : Gh) (xs' : List Value), e = .returned gh'.v ∧ w.grownBy w' gh.blk ∧ gh'.n = res.2.length ∧ gh'.e = E.tid res.1 ∧ gh'.sz = E.size res.1 ∧ OwnT w' gh' xs' ∧
    RowD E w' (fun k o => ro k o ∨ (gh'.blk ≠ some k ∧ (gh.blk = some k ∨ w.heap.size ≤ k ∧ k < w'.heap.size))) res.1 xs' res.2 ∧ (∀ g, gh'.blk = some g → gh.blk = some g ∨ w.heap.size ≤ g)
def EndMOk (E : Env P) (fn : Func) (res : TL E) (w : World) (gh : Gh) (ro : Nat → Nat → Prop) : Exit → Act → World → Prop := bodyPost P fn (EndMP E res w gh ro)
theorem endM_sound {fn : Func} {res : TL E} {w : World} {gh : Gh} {ro : Nat → Nat → Prop} {e : AExit} {S' : ASt E} {a' : Act} {w' : World} {ι' : Nat → Option Gh} {ro' : Nat → Nat → Prop} (hg' : Gam E ⟨w, gh.blk, none⟩ ro S' a' w' ι' ro') (hk : endM fn e S' = some res) :
    EndMOk E fn res w gh ro e.toExit a' w' := by
  have fin : ∀ r, fn.results.toList = [r] → (match valA S' r with | some v => rowA S' v | none => none) = some res → a'.defers = [] ∧ ∃ v, (results fn a'.tmps).run P w' = .ok v w' ∧
      EndMP E res w gh ro (.returned v) w' := by
    intro r hr hres
    cases hv : valA S' r with
    | none => rw [hv] at hres; cases hres
    | some v =>
      rw [hv] at hres
      simp only at hres
      obtain ⟨u, hrun, hrep⟩ := valA_rep hg' hv
      unfold rowA at hres
      split at hres
      · rename_i t0 n0 id
        split at hres
        · rename_i t l hob
          cases hres
          cases hrep with
          | row gh' _ _ ad cap hi h2 h3 h4 h5 =>
            obtain ⟨gh2, xs, hi2, hn, hge, hgs, hown, hrow, hnro⟩ := hg'.objs id _ hob
            rw [hi] at hi2
            cases hi2
            refine ⟨hg'.base.defers, gh'.v, ?_, gh', xs, rfl, hg'.base.below, hn, hge, hgs, hown, hrow.mono (fun k o hk => ?_) (fun _ _ _ => rfl), fun g hg => ?_⟩
            · show (do let vs ← fn.results.mapM (resV a'.tmps); pure (if h : vs.size = 1 then vs[0] else .tuple vs) : Sem Value).run P w' = _
              rw [Array.mapM_eq_mapM_toList, hr]
              simp only [Sem.run_bind, Sem.run_map, List.mapM_cons, List.mapM_nil, hrun, Result.andThen_ok, Sem.run_pure]
              simp [Result.andThen]
            · have hne : gh'.blk ≠ some k := fun e => hnro k e o hk
              rcases hg'.base.ronew k o hk with h | h | h
              · exact .inl h
              · exact .inr ⟨hne, .inr ⟨h, hg'.base.rolt k o hk⟩⟩
              · exact .inr ⟨hne, .inl h⟩
            · rcases (hg'.base.ilt id gh' g hi hg).1 with h | h
              · exact .inr h
              · exact .inl h
        · cases hres
      · cases hres
  cases e with
  | normal =>
    unfold endM at hk
    split at hk
    · rename_i h; cases h
    · rename_i h; cases h
    · split at hk
      · rename_i r hr; exact fin r hr hk
      · cases hk
  | ret =>
    unfold endM at hk
    split at hk
    · rename_i h; cases h
    · rename_i h; cases h
    · split at hk
      · rename_i r hr; exact fin r hr hk
      · cases hk
  | exit id => cases hk
  | goto l => cases hk
def EvM (E : Env P) (fn : Func) (res : TL E) (i : Nat) (S : ASt E) : Prop :=
  ∀ (w0 : World) (gh : Gh) ro0 n c, fn.body = some c → HdOk E ⟨w0, gh.blk, none⟩ ro0 n c (EndMOk E fn res w0 gh ro0) i S
open Classical in
noncomputable def GrM (E : Env P) (fn : Func) (res : TL E) (i : Nat) (S : ASt E) : Option (TL E) := if EvM E fn res i S then some res else none
theorem GrM_ev {fn : Func} {res r : TL E} {i : Nat} {S : ASt E} (h : GrM E fn res i S = some r) : EvM E fn r i S := by
  unfold GrM at h
  split at h
  · cases h; assumption
  · cases h
variable {O : Oracle E} {h : Hint E}
theorem EvM.step (hO : OracleOk E O) (hmix : P.follows .mixedOrders = true) {fn : Func} {res : TL E} {j : Nat} {S : ASt E} (hs : runLM O h (GrM E fn res) fn j S = some res) : EvM E fn res j S := by
  intro w0 gh ro0 n c hc
  unfold runLM at hs
  rw [hc] at hs
  exact segC_sound hO hmix (fun i S hi => ⟨rfl, GrM_ev hi w0 gh ro0 n c hc⟩) (fun e S' a' w' ι' ro' _ h2 _ h4 => endM_sound h2 h4) hs
variable {f : FuncId} {fn : Func}
end
end Go.Proofs.YtjpmmpomloldmaaGreat.Mir
namespace Go.Proofs.YtjpmmpomloldmaaGreat.Rf
open Go Go.RowKit Go.Proofs.YtjpmmpomloldmaaGreat.Mir
structure Check where
  test : List UInt8
  every : Int
  start : Int
  retries : Int
structure Spec where
  name : List UInt8
  project : List UInt8
  service : List UInt8
  number : Int
  hash : List UInt8
  nets : List (List UInt8)
  vols : List (List UInt8)
  health : Check
  restart : Int
  tries : Int
structure Call where
  kind : Int
  name : List UInt8
  id : Int
  spec : Spec
structure Note where
  at_ : Int
  kind : Int
  project : List UInt8
  call : Call
  id : Int
  what : Int
  e : Int
structure Container where
  id : Int
  spec : Spec
  state : Int
  code : Int
  health : Int
  runs : Int
structure Kept where
  name : List UInt8
  project : List UInt8
structure Seen where
  boxes : List Container
  nets : List Kept
  vols : List Kept
structure Tally where
  calls : Int
  faults : Int
  row : Int
  waits : Int
  overs : Int
  crashes : Int
  others : Int
structure Var where
  key : List UInt8
  val : List UInt8
structure Port where
  host : List UInt8
  out : Int
  in_ : Int
  proto : List UInt8
structure Mount where
  source : List UInt8
  target : List UInt8
  readOnly : Bool
structure Dep where
  service : List UInt8
  cond : Int
  restart : Bool
  required : Bool
structure Service where
  name : List UInt8
  image : List UInt8
  command : List (List UInt8)
  env : List Var
  labels : List Var
  ports : List Port
  mounts : List Mount
  nets : List (List UInt8)
  deps : List Dep
  replicas : Int
  health : Check
  restart : Int
  tries : Int
  cpus : Int
  mem : Int
structure Project where
  name : List UInt8
  services : List Service
  nets : List (List UInt8)
  vols : List (List UInt8)
structure Command where
  kind : Int
  services : List (List UInt8)
  count : Int
  orphans : Bool
  volumes : Bool
  timeout : Int
  retries : Int
structure rule where
  word : List UInt8
  is : Nat
structure Arr89 where
  e0 : Int × Int
  e1 : Int × Int
  e2 : Int × Int
  e3 : Int × Int
structure Point where
  re : Int
  im : Int
structure Arr163 where
  e0 : Int
  e1 : Int
  e2 : Int
  e3 : Int
  e4 : Int
  e5 : Int
  e6 : Int
  e7 : Int
  e8 : Int
inductive Ty where
  | int | str | l_str | api_Check | api_Spec | api_Call | api_Errno | ref44_Note | l_ref44_Note | bool | event_Note | l_event_Note | l_bool | api_Container | l_api_Container | api_Kept | l_api_Kept | view_Seen | audit_Tally | api_Var | l_api_Var | api_Port | l_api_Port | api_Mount | l_api_Mount | api_Dep | l_api_Dep | api_Service | l_api_Service | api_Project | api_Command | ref47_Tally | fn24 | audit_rule | l_audit_rule | complex | a4_complex | ref29_Point | fn100 | byte | float | fn112 | fn119 | fn129 | l_int | fn142 | a9_int
  deriving DecidableEq
abbrev Den : Ty → Type
  | .int => Int
  | .str => List UInt8
  | .l_str => List (List UInt8)
  | .api_Check => Check
  | .api_Spec => Spec
  | .api_Call => Call
  | .api_Errno => Int
  | .ref44_Note => Note
  | .l_ref44_Note => List Note
  | .bool => Bool
  | .event_Note => Note
  | .l_event_Note => List Note
  | .l_bool => List Bool
  | .api_Container => Container
  | .l_api_Container => List Container
  | .api_Kept => Kept
  | .l_api_Kept => List Kept
  | .view_Seen => Seen
  | .audit_Tally => Tally
  | .api_Var => Var
  | .l_api_Var => List Var
  | .api_Port => Port
  | .l_api_Port => List Port
  | .api_Mount => Mount
  | .l_api_Mount => List Mount
  | .api_Dep => Dep
  | .l_api_Dep => List Dep
  | .api_Service => Service
  | .l_api_Service => List Service
  | .api_Project => Project
  | .api_Command => Command
  | .ref47_Tally => Tally
  | .fn24 => Nat
  | .audit_rule => rule
  | .l_audit_rule => List rule
  | .complex => Int × Int
  | .a4_complex => Arr89
  | .ref29_Point => Point
  | .fn100 => Nat
  | .byte => Int
  | .float => Int
  | .fn112 => Nat
  | .fn119 => Nat
  | .fn129 => Nat
  | .l_int => List Int
  | .fn142 => Nat
  | .a9_int => Arr163
def tid : Ty → TypeId
  | .int => 3
  | .str => 9
  | .l_str => 26
  | .api_Check => 28
  | .api_Spec => 30
  | .api_Call => 32
  | .api_Errno => 33
  | .ref44_Note => 36
  | .l_ref44_Note => 22
  | .bool => 4
  | .event_Note => 35
  | .l_event_Note => 25
  | .l_bool => 37
  | .api_Container => 48
  | .l_api_Container => 49
  | .api_Kept => 51
  | .l_api_Kept => 52
  | .view_Seen => 54
  | .audit_Tally => 41
  | .api_Var => 200
  | .l_api_Var => 130
  | .api_Port => 202
  | .l_api_Port => 131
  | .api_Mount => 204
  | .l_api_Mount => 132
  | .api_Dep => 127
  | .l_api_Dep => 122
  | .api_Service => 134
  | .l_api_Service => 57
  | .api_Project => 59
  | .api_Command => 64
  | .ref47_Tally => 43
  | .fn24 => 24
  | .audit_rule => 87
  | .l_audit_rule => 84
  | .complex => 88
  | .a4_complex => 89
  | .ref29_Point => 95
  | .fn100 => 100
  | .byte => 5
  | .float => 109
  | .fn112 => 112
  | .fn119 => 119
  | .fn129 => 129
  | .l_int => 145
  | .fn142 => 142
  | .a9_int => 163
def code : TypeId → Option Ty
  | 3 => some .int
  | 9 => some .str
  | 26 => some .l_str
  | 28 => some .api_Check
  | 30 => some .api_Spec
  | 32 => some .api_Call
  | 33 => some .api_Errno
  | 36 => some .ref44_Note
  | 22 => some .l_ref44_Note
  | 4 => some .bool
  | 35 => some .event_Note
  | 25 => some .l_event_Note
  | 37 => some .l_bool
  | 48 => some .api_Container
  | 49 => some .l_api_Container
  | 51 => some .api_Kept
  | 52 => some .l_api_Kept
  | 54 => some .view_Seen
  | 41 => some .audit_Tally
  | 200 => some .api_Var
  | 130 => some .l_api_Var
  | 202 => some .api_Port
  | 131 => some .l_api_Port
  | 204 => some .api_Mount
  | 132 => some .l_api_Mount
  | 127 => some .api_Dep
  | 122 => some .l_api_Dep
  | 134 => some .api_Service
  | 57 => some .l_api_Service
  | 59 => some .api_Project
  | 64 => some .api_Command
  | 43 => some .ref47_Tally
  | 24 => some .fn24
  | 87 => some .audit_rule
  | 84 => some .l_audit_rule
  | 88 => some .complex
  | 89 => some .a4_complex
  | 95 => some .ref29_Point
  | 100 => some .fn100
  | 5 => some .byte
  | 109 => some .float
  | 112 => some .fn112
  | 119 => some .fn119
  | 129 => some .fn129
  | 145 => some .l_int
  | 142 => some .fn142
  | 163 => some .a9_int
  | _ => none
def agg : Ty → Bool
  | .int => false
  | .str => false
  | .l_str => false
  | .api_Check => true
  | .api_Spec => true
  | .api_Call => true
  | .api_Errno => false
  | .ref44_Note => true
  | .l_ref44_Note => false
  | .bool => false
  | .event_Note => true
  | .l_event_Note => false
  | .l_bool => false
  | .api_Container => true
  | .l_api_Container => false
  | .api_Kept => true
  | .l_api_Kept => false
  | .view_Seen => true
  | .audit_Tally => true
  | .api_Var => true
  | .l_api_Var => false
  | .api_Port => true
  | .l_api_Port => false
  | .api_Mount => true
  | .l_api_Mount => false
  | .api_Dep => true
  | .l_api_Dep => false
  | .api_Service => true
  | .l_api_Service => false
  | .api_Project => true
  | .api_Command => true
  | .ref47_Tally => true
  | .fn24 => false
  | .audit_rule => true
  | .l_audit_rule => false
  | .complex => false
  | .a4_complex => true
  | .ref29_Point => true
  | .fn100 => false
  | .byte => false
  | .float => false
  | .fn112 => false
  | .fn119 => false
  | .fn129 => false
  | .l_int => false
  | .fn142 => false
  | .a9_int => true
def size : Ty → Nat
  | .int => 1
  | .str => 1
  | .l_str => 1
  | .api_Check => 4
  | .api_Spec => 13
  | .api_Call => 16
  | .api_Errno => 1
  | .ref44_Note => 22
  | .l_ref44_Note => 1
  | .bool => 1
  | .event_Note => 22
  | .l_event_Note => 1
  | .l_bool => 1
  | .api_Container => 18
  | .l_api_Container => 1
  | .api_Kept => 2
  | .l_api_Kept => 1
  | .view_Seen => 3
  | .audit_Tally => 7
  | .api_Var => 2
  | .l_api_Var => 1
  | .api_Port => 4
  | .l_api_Port => 1
  | .api_Mount => 3
  | .l_api_Mount => 1
  | .api_Dep => 4
  | .l_api_Dep => 1
  | .api_Service => 18
  | .l_api_Service => 1
  | .api_Project => 4
  | .api_Command => 7
  | .ref47_Tally => 7
  | .fn24 => 1
  | .audit_rule => 2
  | .l_audit_rule => 1
  | .complex => 1
  | .a4_complex => 4
  | .ref29_Point => 2
  | .fn100 => 1
  | .byte => 1
  | .float => 1
  | .fn112 => 1
  | .fn119 => 1
  | .fn129 => 1
  | .l_int => 1
  | .fn142 => 1
  | .a9_int => 9
def bytes : Ty → Nat
  | .int => 8
  | .str => 16
  | .l_str => 24
  | .api_Check => 40
  | .api_Spec => 176
  | .api_Call => 208
  | .api_Errno => 8
  | .ref44_Note => 264
  | .l_ref44_Note => 24
  | .bool => 1
  | .event_Note => 264
  | .l_event_Note => 24
  | .l_bool => 24
  | .api_Container => 216
  | .l_api_Container => 24
  | .api_Kept => 32
  | .l_api_Kept => 24
  | .view_Seen => 72
  | .audit_Tally => 56
  | .api_Var => 32
  | .l_api_Var => 24
  | .api_Port => 48
  | .l_api_Port => 24
  | .api_Mount => 40
  | .l_api_Mount => 24
  | .api_Dep => 32
  | .l_api_Dep => 24
  | .api_Service => 280
  | .l_api_Service => 24
  | .api_Project => 88
  | .api_Command => 64
  | .ref47_Tally => 56
  | .fn24 => 8
  | .audit_rule => 24
  | .l_audit_rule => 24
  | .complex => 16
  | .a4_complex => 64
  | .ref29_Point => 16
  | .fn100 => 8
  | .byte => 1
  | .float => 8
  | .fn112 => 8
  | .fn119 => 8
  | .fn129 => 8
  | .l_int => 24
  | .fn142 => 8
  | .a9_int => 72
def cells : (t : Ty) → Den t → List (DVal Den)
  | .int, x => [.int .i64 x]
  | .str, x => [.str x]
  | .l_str, x => [.slice .str x]
  | .api_Check, x => [.str x.test, .int .i64 x.every, .int .i64 x.start, .int .i64 x.retries]
  | .api_Spec, x => [.str x.name, .str x.project, .str x.service, .int .i64 x.number, .str x.hash, .slice .str x.nets, .slice .str x.vols, .str x.health.test, .int .i64 x.health.every, .int .i64 x.health.start, .int .i64 x.health.retries, .int .i64 x.restart, .int .i64 x.tries]
  | .api_Call, x => [.int .i64 x.kind, .str x.name, .int .i64 x.id, .str x.spec.name, .str x.spec.project, .str x.spec.service, .int .i64 x.spec.number, .str x.spec.hash, .slice .str x.spec.nets, .slice .str x.spec.vols, .str x.spec.health.test, .int .i64 x.spec.health.every, .int .i64 x.spec.health.start, .int .i64 x.spec.health.retries, .int .i64 x.spec.restart, .int .i64 x.spec.tries]
  | .api_Errno, x => [.int .i64 x]
  | .ref44_Note, x => [.int .i64 x.at_, .int .i64 x.kind, .str x.project, .int .i64 x.call.kind, .str x.call.name, .int .i64 x.call.id, .str x.call.spec.name, .str x.call.spec.project, .str x.call.spec.service, .int .i64 x.call.spec.number, .str x.call.spec.hash, .slice .str x.call.spec.nets, .slice .str x.call.spec.vols, .str x.call.spec.health.test, .int .i64 x.call.spec.health.every, .int .i64 x.call.spec.health.start, .int .i64 x.call.spec.health.retries, .int .i64 x.call.spec.restart, .int .i64 x.call.spec.tries, .int .i64 x.id, .int .i64 x.what, .int .i64 x.e]
  | .l_ref44_Note, x => [.slice .ref44_Note x]
  | .bool, x => [.bool x]
  | .event_Note, x => [.int .i64 x.at_, .int .i64 x.kind, .str x.project, .int .i64 x.call.kind, .str x.call.name, .int .i64 x.call.id, .str x.call.spec.name, .str x.call.spec.project, .str x.call.spec.service, .int .i64 x.call.spec.number, .str x.call.spec.hash, .slice .str x.call.spec.nets, .slice .str x.call.spec.vols, .str x.call.spec.health.test, .int .i64 x.call.spec.health.every, .int .i64 x.call.spec.health.start, .int .i64 x.call.spec.health.retries, .int .i64 x.call.spec.restart, .int .i64 x.call.spec.tries, .int .i64 x.id, .int .i64 x.what, .int .i64 x.e]
  | .l_event_Note, x => [.slice .event_Note x]
  | .l_bool, x => [.slice .bool x]
  | .api_Container, x => [.int .i64 x.id, .str x.spec.name, .str x.spec.project, .str x.spec.service, .int .i64 x.spec.number, .str x.spec.hash, .slice .str x.spec.nets, .slice .str x.spec.vols, .str x.spec.health.test, .int .i64 x.spec.health.every, .int .i64 x.spec.health.start, .int .i64 x.spec.health.retries, .int .i64 x.spec.restart, .int .i64 x.spec.tries, .int .i64 x.state, .int .i64 x.code, .int .i64 x.health, .int .i64 x.runs]
  | .l_api_Container, x => [.slice .api_Container x]
  | .api_Kept, x => [.str x.name, .str x.project]
  | .l_api_Kept, x => [.slice .api_Kept x]
  | .view_Seen, x => [.slice .api_Container x.boxes, .slice .api_Kept x.nets, .slice .api_Kept x.vols]
  | .audit_Tally, x => [.int .i64 x.calls, .int .i64 x.faults, .int .i64 x.row, .int .i64 x.waits, .int .i64 x.overs, .int .i64 x.crashes, .int .i64 x.others]
  | .api_Var, x => [.str x.key, .str x.val]
  | .l_api_Var, x => [.slice .api_Var x]
  | .api_Port, x => [.str x.host, .int .i64 x.out, .int .i64 x.in_, .str x.proto]
  | .l_api_Port, x => [.slice .api_Port x]
  | .api_Mount, x => [.str x.source, .str x.target, .bool x.readOnly]
  | .l_api_Mount, x => [.slice .api_Mount x]
  | .api_Dep, x => [.str x.service, .int .i64 x.cond, .bool x.restart, .bool x.required]
  | .l_api_Dep, x => [.slice .api_Dep x]
  | .api_Service, x => [.str x.name, .str x.image, .slice .str x.command, .slice .api_Var x.env, .slice .api_Var x.labels, .slice .api_Port x.ports, .slice .api_Mount x.mounts, .slice .str x.nets, .slice .api_Dep x.deps, .int .i64 x.replicas, .str x.health.test, .int .i64 x.health.every, .int .i64 x.health.start, .int .i64 x.health.retries, .int .i64 x.restart, .int .i64 x.tries, .int .i64 x.cpus, .int .i64 x.mem]
  | .l_api_Service, x => [.slice .api_Service x]
  | .api_Project, x => [.str x.name, .slice .api_Service x.services, .slice .str x.nets, .slice .str x.vols]
  | .api_Command, x => [.int .i64 x.kind, .slice .str x.services, .int .i64 x.count, .bool x.orphans, .bool x.volumes, .int .i64 x.timeout, .int .i64 x.retries]
  | .ref47_Tally, x => [.int .i64 x.calls, .int .i64 x.faults, .int .i64 x.row, .int .i64 x.waits, .int .i64 x.overs, .int .i64 x.crashes, .int .i64 x.others]
  | .fn24, x => [.raw (.func (.func x) #[] #[])]
  | .audit_rule, x => [.str x.word, .raw (.func (.func x.is) #[] #[])]
  | .l_audit_rule, x => [.slice .audit_rule x]
  | .complex, x => [.cpx x.1 x.2]
  | .a4_complex, x => [.cpx x.e0.1 x.e0.2, .cpx x.e1.1 x.e1.2, .cpx x.e2.1 x.e2.2, .cpx x.e3.1 x.e3.2]
  | .ref29_Point, x => [.int .i64 x.re, .int .i64 x.im]
  | .fn100, x => [.raw (.func (.func x) #[] #[])]
  | .byte, x => [.int .u8 x]
  | .float, x => [.flt x]
  | .fn112, x => [.raw (.func (.func x) #[] #[])]
  | .fn119, x => [.raw (.func (.func x) #[] #[])]
  | .fn129, x => [.raw (.func (.func x) #[] #[])]
  | .l_int, x => [.slice .int x]
  | .fn142, x => [.raw (.func (.func x) #[] #[])]
  | .a9_int, x => [.int .i64 x.e0, .int .i64 x.e1, .int .i64 x.e2, .int .i64 x.e3, .int .i64 x.e4, .int .i64 x.e5, .int .i64 x.e6, .int .i64 x.e7, .int .i64 x.e8]
def dec : DecidableEq Ty := inferInstance
def fd_int : List (DVal Den) → Option (Den .int)
  | [c] => dInt .i64 c
  | _ => none
def fd_str : List (DVal Den) → Option (Den .str)
  | [c] => dStr c
  | _ => none
def fd_l_str : List (DVal Den) → Option (Den .l_str)
  | [c] => dSl dec .str c
  | _ => none
def fd_api_Check : List (DVal Den) → Option (Den .api_Check)
  | [c0, c1, c2, c3] => (dStr c0).bind fun y0 => (dInt .i64 c1).bind fun y1 => (dInt .i64 c2).bind fun y2 => (dInt .i64 c3).bind fun y3 => some (⟨y0, y1, y2, y3⟩ : Check)
  | _ => none
def fd_api_Spec : List (DVal Den) → Option (Den .api_Spec)
  | [c0, c1, c2, c3, c4, c5, c6, c7, c8, c9, c10, c11, c12] => (dStr c0).bind fun y0 => (dStr c1).bind fun y1 => (dStr c2).bind fun y2 => (dInt .i64 c3).bind fun y3 => (dStr c4).bind fun y4 => (dSl dec .str c5).bind fun y5 => (dSl dec .str c6).bind fun y6 => (dStr c7).bind fun y7 => (dInt .i64 c8).bind fun y8 => (dInt .i64 c9).bind fun y9 => (dInt .i64 c10).bind fun y10 => (dInt .i64 c11).bind fun y11 => (dInt .i64 c12).bind fun y12 => some (⟨y0, y1, y2, y3, y4, y5, y6, (⟨y7, y8, y9, y10⟩ : Check), y11, y12⟩ : Spec)
  | _ => none
def fd_api_Call : List (DVal Den) → Option (Den .api_Call)
  | [c0, c1, c2, c3, c4, c5, c6, c7, c8, c9, c10, c11, c12, c13, c14, c15] => (dInt .i64 c0).bind fun y0 => (dStr c1).bind fun y1 => (dInt .i64 c2).bind fun y2 => (dStr c3).bind fun y3 => (dStr c4).bind fun y4 => (dStr c5).bind fun y5 => (dInt .i64 c6).bind fun y6 => (dStr c7).bind fun y7 => (dSl dec .str c8).bind fun y8 => (dSl dec .str c9).bind fun y9 => (dStr c10).bind fun y10 => (dInt .i64 c11).bind fun y11 => (dInt .i64 c12).bind fun y12 => (dInt .i64 c13).bind fun y13 => (dInt .i64 c14).bind fun y14 => (dInt .i64 c15).bind fun y15 => some (⟨y0, y1, y2, (⟨y3, y4, y5, y6, y7, y8, y9, (⟨y10, y11, y12, y13⟩ : Check), y14, y15⟩ : Spec)⟩ : Call)
  | _ => none
def fd_api_Errno : List (DVal Den) → Option (Den .api_Errno)
  | [c] => dInt .i64 c
  | _ => none
def fd_ref44_Note : List (DVal Den) → Option (Den .ref44_Note)
  | [c0, c1, c2, c3, c4, c5, c6, c7, c8, c9, c10, c11, c12, c13, c14, c15, c16, c17, c18, c19, c20, c21] => (dInt .i64 c0).bind fun y0 => (dInt .i64 c1).bind fun y1 => (dStr c2).bind fun y2 => (dInt .i64 c3).bind fun y3 => (dStr c4).bind fun y4 => (dInt .i64 c5).bind fun y5 => (dStr c6).bind fun y6 => (dStr c7).bind fun y7 => (dStr c8).bind fun y8 => (dInt .i64 c9).bind fun y9 => (dStr c10).bind fun y10 => (dSl dec .str c11).bind fun y11 => (dSl dec .str c12).bind fun y12 => (dStr c13).bind fun y13 => (dInt .i64 c14).bind fun y14 => (dInt .i64 c15).bind fun y15 => (dInt .i64 c16).bind fun y16 => (dInt .i64 c17).bind fun y17 => (dInt .i64 c18).bind fun y18 => (dInt .i64 c19).bind fun y19 => (dInt .i64 c20).bind fun y20 => (dInt .i64 c21).bind fun y21 => some (⟨y0, y1, y2, (⟨y3, y4, y5, (⟨y6, y7, y8, y9, y10, y11, y12, (⟨y13, y14, y15, y16⟩ : Check), y17, y18⟩ : Spec)⟩ : Call), y19, y20, y21⟩ : Note)
  | _ => none
def fd_l_ref44_Note : List (DVal Den) → Option (Den .l_ref44_Note)
  | [c] => dSl dec .ref44_Note c
  | _ => none
def fd_bool : List (DVal Den) → Option (Den .bool)
  | [c] => dBl c
  | _ => none
def fd_event_Note : List (DVal Den) → Option (Den .event_Note)
  | [c0, c1, c2, c3, c4, c5, c6, c7, c8, c9, c10, c11, c12, c13, c14, c15, c16, c17, c18, c19, c20, c21] => (dInt .i64 c0).bind fun y0 => (dInt .i64 c1).bind fun y1 => (dStr c2).bind fun y2 => (dInt .i64 c3).bind fun y3 => (dStr c4).bind fun y4 => (dInt .i64 c5).bind fun y5 => (dStr c6).bind fun y6 => (dStr c7).bind fun y7 => (dStr c8).bind fun y8 => (dInt .i64 c9).bind fun y9 => (dStr c10).bind fun y10 => (dSl dec .str c11).bind fun y11 => (dSl dec .str c12).bind fun y12 => (dStr c13).bind fun y13 => (dInt .i64 c14).bind fun y14 => (dInt .i64 c15).bind fun y15 => (dInt .i64 c16).bind fun y16 => (dInt .i64 c17).bind fun y17 => (dInt .i64 c18).bind fun y18 => (dInt .i64 c19).bind fun y19 => (dInt .i64 c20).bind fun y20 => (dInt .i64 c21).bind fun y21 => some (⟨y0, y1, y2, (⟨y3, y4, y5, (⟨y6, y7, y8, y9, y10, y11, y12, (⟨y13, y14, y15, y16⟩ : Check), y17, y18⟩ : Spec)⟩ : Call), y19, y20, y21⟩ : Note)
  | _ => none
def fd_l_event_Note : List (DVal Den) → Option (Den .l_event_Note)
  | [c] => dSl dec .event_Note c
  | _ => none
def fd_l_bool : List (DVal Den) → Option (Den .l_bool)
  | [c] => dSl dec .bool c
  | _ => none
def fd_api_Container : List (DVal Den) → Option (Den .api_Container)
  | [c0, c1, c2, c3, c4, c5, c6, c7, c8, c9, c10, c11, c12, c13, c14, c15, c16, c17] => (dInt .i64 c0).bind fun y0 => (dStr c1).bind fun y1 => (dStr c2).bind fun y2 => (dStr c3).bind fun y3 => (dInt .i64 c4).bind fun y4 => (dStr c5).bind fun y5 => (dSl dec .str c6).bind fun y6 => (dSl dec .str c7).bind fun y7 => (dStr c8).bind fun y8 => (dInt .i64 c9).bind fun y9 => (dInt .i64 c10).bind fun y10 => (dInt .i64 c11).bind fun y11 => (dInt .i64 c12).bind fun y12 => (dInt .i64 c13).bind fun y13 => (dInt .i64 c14).bind fun y14 => (dInt .i64 c15).bind fun y15 => (dInt .i64 c16).bind fun y16 => (dInt .i64 c17).bind fun y17 => some (⟨y0, (⟨y1, y2, y3, y4, y5, y6, y7, (⟨y8, y9, y10, y11⟩ : Check), y12, y13⟩ : Spec), y14, y15, y16, y17⟩ : Container)
  | _ => none
def fd_l_api_Container : List (DVal Den) → Option (Den .l_api_Container)
  | [c] => dSl dec .api_Container c
  | _ => none
def fd_api_Kept : List (DVal Den) → Option (Den .api_Kept)
  | [c0, c1] => (dStr c0).bind fun y0 => (dStr c1).bind fun y1 => some (⟨y0, y1⟩ : Kept)
  | _ => none
def fd_l_api_Kept : List (DVal Den) → Option (Den .l_api_Kept)
  | [c] => dSl dec .api_Kept c
  | _ => none
def fd_view_Seen : List (DVal Den) → Option (Den .view_Seen)
  | [c0, c1, c2] => (dSl dec .api_Container c0).bind fun y0 => (dSl dec .api_Kept c1).bind fun y1 => (dSl dec .api_Kept c2).bind fun y2 => some (⟨y0, y1, y2⟩ : Seen)
  | _ => none
def fd_audit_Tally : List (DVal Den) → Option (Den .audit_Tally)
  | [c0, c1, c2, c3, c4, c5, c6] => (dInt .i64 c0).bind fun y0 => (dInt .i64 c1).bind fun y1 => (dInt .i64 c2).bind fun y2 => (dInt .i64 c3).bind fun y3 => (dInt .i64 c4).bind fun y4 => (dInt .i64 c5).bind fun y5 => (dInt .i64 c6).bind fun y6 => some (⟨y0, y1, y2, y3, y4, y5, y6⟩ : Tally)
  | _ => none
def fd_api_Var : List (DVal Den) → Option (Den .api_Var)
  | [c0, c1] => (dStr c0).bind fun y0 => (dStr c1).bind fun y1 => some (⟨y0, y1⟩ : Var)
  | _ => none
def fd_l_api_Var : List (DVal Den) → Option (Den .l_api_Var)
  | [c] => dSl dec .api_Var c
  | _ => none
def fd_api_Port : List (DVal Den) → Option (Den .api_Port)
  | [c0, c1, c2, c3] => (dStr c0).bind fun y0 => (dInt .i64 c1).bind fun y1 => (dInt .i64 c2).bind fun y2 => (dStr c3).bind fun y3 => some (⟨y0, y1, y2, y3⟩ : Port)
  | _ => none
def fd_l_api_Port : List (DVal Den) → Option (Den .l_api_Port)
  | [c] => dSl dec .api_Port c
  | _ => none
def fd_api_Mount : List (DVal Den) → Option (Den .api_Mount)
  | [c0, c1, c2] => (dStr c0).bind fun y0 => (dStr c1).bind fun y1 => (dBl c2).bind fun y2 => some (⟨y0, y1, y2⟩ : Mount)
  | _ => none
def fd_l_api_Mount : List (DVal Den) → Option (Den .l_api_Mount)
  | [c] => dSl dec .api_Mount c
  | _ => none
def fd_api_Dep : List (DVal Den) → Option (Den .api_Dep)
  | [c0, c1, c2, c3] => (dStr c0).bind fun y0 => (dInt .i64 c1).bind fun y1 => (dBl c2).bind fun y2 => (dBl c3).bind fun y3 => some (⟨y0, y1, y2, y3⟩ : Dep)
  | _ => none
def fd_l_api_Dep : List (DVal Den) → Option (Den .l_api_Dep)
  | [c] => dSl dec .api_Dep c
  | _ => none
def fd_api_Service : List (DVal Den) → Option (Den .api_Service)
  | [c0, c1, c2, c3, c4, c5, c6, c7, c8, c9, c10, c11, c12, c13, c14, c15, c16, c17] => (dStr c0).bind fun y0 => (dStr c1).bind fun y1 => (dSl dec .str c2).bind fun y2 => (dSl dec .api_Var c3).bind fun y3 => (dSl dec .api_Var c4).bind fun y4 => (dSl dec .api_Port c5).bind fun y5 => (dSl dec .api_Mount c6).bind fun y6 => (dSl dec .str c7).bind fun y7 => (dSl dec .api_Dep c8).bind fun y8 => (dInt .i64 c9).bind fun y9 => (dStr c10).bind fun y10 => (dInt .i64 c11).bind fun y11 => (dInt .i64 c12).bind fun y12 => (dInt .i64 c13).bind fun y13 => (dInt .i64 c14).bind fun y14 => (dInt .i64 c15).bind fun y15 => (dInt .i64 c16).bind fun y16 => (dInt .i64 c17).bind fun y17 => some (⟨y0, y1, y2, y3, y4, y5, y6, y7, y8, y9, (⟨y10, y11, y12, y13⟩ : Check), y14, y15, y16, y17⟩ : Service)
  | _ => none
def fd_l_api_Service : List (DVal Den) → Option (Den .l_api_Service)
  | [c] => dSl dec .api_Service c
  | _ => none
def fd_api_Project : List (DVal Den) → Option (Den .api_Project)
  | [c0, c1, c2, c3] => (dStr c0).bind fun y0 => (dSl dec .api_Service c1).bind fun y1 => (dSl dec .str c2).bind fun y2 => (dSl dec .str c3).bind fun y3 => some (⟨y0, y1, y2, y3⟩ : Project)
  | _ => none
def fd_api_Command : List (DVal Den) → Option (Den .api_Command)
  | [c0, c1, c2, c3, c4, c5, c6] => (dInt .i64 c0).bind fun y0 => (dSl dec .str c1).bind fun y1 => (dInt .i64 c2).bind fun y2 => (dBl c3).bind fun y3 => (dBl c4).bind fun y4 => (dInt .i64 c5).bind fun y5 => (dInt .i64 c6).bind fun y6 => some (⟨y0, y1, y2, y3, y4, y5, y6⟩ : Command)
  | _ => none
def fd_ref47_Tally : List (DVal Den) → Option (Den .ref47_Tally)
  | [c0, c1, c2, c3, c4, c5, c6] => (dInt .i64 c0).bind fun y0 => (dInt .i64 c1).bind fun y1 => (dInt .i64 c2).bind fun y2 => (dInt .i64 c3).bind fun y3 => (dInt .i64 c4).bind fun y4 => (dInt .i64 c5).bind fun y5 => (dInt .i64 c6).bind fun y6 => some (⟨y0, y1, y2, y3, y4, y5, y6⟩ : Tally)
  | _ => none
def fd_fn24 : List (DVal Den) → Option (Den .fn24)
  | [c] => dFn c
  | _ => none
def fd_audit_rule : List (DVal Den) → Option (Den .audit_rule)
  | [c0, c1] => (dStr c0).bind fun y0 => (dFn c1).bind fun y1 => some (⟨y0, y1⟩ : rule)
  | _ => none
def fd_l_audit_rule : List (DVal Den) → Option (Den .l_audit_rule)
  | [c] => dSl dec .audit_rule c
  | _ => none
def fd_complex : List (DVal Den) → Option (Den .complex)
  | [c] => dCpx c
  | _ => none
def fd_a4_complex : List (DVal Den) → Option (Den .a4_complex)
  | [c0, c1, c2, c3] => (dCpx c0).bind fun y0 => (dCpx c1).bind fun y1 => (dCpx c2).bind fun y2 => (dCpx c3).bind fun y3 => some (⟨y0, y1, y2, y3⟩ : Arr89)
  | _ => none
def fd_ref29_Point : List (DVal Den) → Option (Den .ref29_Point)
  | [c0, c1] => (dInt .i64 c0).bind fun y0 => (dInt .i64 c1).bind fun y1 => some (⟨y0, y1⟩ : Point)
  | _ => none
def fd_fn100 : List (DVal Den) → Option (Den .fn100)
  | [c] => dFn c
  | _ => none
def fd_byte : List (DVal Den) → Option (Den .byte)
  | [c] => dInt .u8 c
  | _ => none
def fd_float : List (DVal Den) → Option (Den .float)
  | [c] => dFlt c
  | _ => none
def fd_fn112 : List (DVal Den) → Option (Den .fn112)
  | [c] => dFn c
  | _ => none
def fd_fn119 : List (DVal Den) → Option (Den .fn119)
  | [c] => dFn c
  | _ => none
def fd_fn129 : List (DVal Den) → Option (Den .fn129)
  | [c] => dFn c
  | _ => none
def fd_l_int : List (DVal Den) → Option (Den .l_int)
  | [c] => dSl dec .int c
  | _ => none
def fd_fn142 : List (DVal Den) → Option (Den .fn142)
  | [c] => dFn c
  | _ => none
def fd_a9_int : List (DVal Den) → Option (Den .a9_int)
  | [c0, c1, c2, c3, c4, c5, c6, c7, c8] => (dInt .i64 c0).bind fun y0 => (dInt .i64 c1).bind fun y1 => (dInt .i64 c2).bind fun y2 => (dInt .i64 c3).bind fun y3 => (dInt .i64 c4).bind fun y4 => (dInt .i64 c5).bind fun y5 => (dInt .i64 c6).bind fun y6 => (dInt .i64 c7).bind fun y7 => (dInt .i64 c8).bind fun y8 => some (⟨y0, y1, y2, y3, y4, y5, y6, y7, y8⟩ : Arr163)
  | _ => none
def fold : (t : Ty) → List (DVal Den) → Option (Den t)
  | .int => fd_int
  | .str => fd_str
  | .l_str => fd_l_str
  | .api_Check => fd_api_Check
  | .api_Spec => fd_api_Spec
  | .api_Call => fd_api_Call
  | .api_Errno => fd_api_Errno
  | .ref44_Note => fd_ref44_Note
  | .l_ref44_Note => fd_l_ref44_Note
  | .bool => fd_bool
  | .event_Note => fd_event_Note
  | .l_event_Note => fd_l_event_Note
  | .l_bool => fd_l_bool
  | .api_Container => fd_api_Container
  | .l_api_Container => fd_l_api_Container
  | .api_Kept => fd_api_Kept
  | .l_api_Kept => fd_l_api_Kept
  | .view_Seen => fd_view_Seen
  | .audit_Tally => fd_audit_Tally
  | .api_Var => fd_api_Var
  | .l_api_Var => fd_l_api_Var
  | .api_Port => fd_api_Port
  | .l_api_Port => fd_l_api_Port
  | .api_Mount => fd_api_Mount
  | .l_api_Mount => fd_l_api_Mount
  | .api_Dep => fd_api_Dep
  | .l_api_Dep => fd_l_api_Dep
  | .api_Service => fd_api_Service
  | .l_api_Service => fd_l_api_Service
  | .api_Project => fd_api_Project
  | .api_Command => fd_api_Command
  | .ref47_Tally => fd_ref47_Tally
  | .fn24 => fd_fn24
  | .audit_rule => fd_audit_rule
  | .l_audit_rule => fd_l_audit_rule
  | .complex => fd_complex
  | .a4_complex => fd_a4_complex
  | .ref29_Point => fd_ref29_Point
  | .fn100 => fd_fn100
  | .byte => fd_byte
  | .float => fd_float
  | .fn112 => fd_fn112
  | .fn119 => fd_fn119
  | .fn129 => fd_fn129
  | .l_int => fd_l_int
  | .fn142 => fd_fn142
  | .a9_int => fd_a9_int
def dflt : (t : Ty) → Den t
  | .int => (0 : Int)
  | .str => []
  | .l_str => []
  | .api_Check => ⟨[], (0 : Int), (0 : Int), (0 : Int)⟩
  | .api_Spec => ⟨[], [], [], (0 : Int), [], [], [], ⟨[], (0 : Int), (0 : Int), (0 : Int)⟩, (0 : Int), (0 : Int)⟩
  | .api_Call => ⟨(0 : Int), [], (0 : Int), ⟨[], [], [], (0 : Int), [], [], [], ⟨[], (0 : Int), (0 : Int), (0 : Int)⟩, (0 : Int), (0 : Int)⟩⟩
  | .api_Errno => (0 : Int)
  | .ref44_Note => ⟨(0 : Int), (0 : Int), [], ⟨(0 : Int), [], (0 : Int), ⟨[], [], [], (0 : Int), [], [], [], ⟨[], (0 : Int), (0 : Int), (0 : Int)⟩, (0 : Int), (0 : Int)⟩⟩, (0 : Int), (0 : Int), (0 : Int)⟩
  | .l_ref44_Note => []
  | .bool => false
  | .event_Note => ⟨(0 : Int), (0 : Int), [], ⟨(0 : Int), [], (0 : Int), ⟨[], [], [], (0 : Int), [], [], [], ⟨[], (0 : Int), (0 : Int), (0 : Int)⟩, (0 : Int), (0 : Int)⟩⟩, (0 : Int), (0 : Int), (0 : Int)⟩
  | .l_event_Note => []
  | .l_bool => []
  | .api_Container => ⟨(0 : Int), ⟨[], [], [], (0 : Int), [], [], [], ⟨[], (0 : Int), (0 : Int), (0 : Int)⟩, (0 : Int), (0 : Int)⟩, (0 : Int), (0 : Int), (0 : Int), (0 : Int)⟩
  | .l_api_Container => []
  | .api_Kept => ⟨[], []⟩
  | .l_api_Kept => []
  | .view_Seen => ⟨[], [], []⟩
  | .audit_Tally => ⟨(0 : Int), (0 : Int), (0 : Int), (0 : Int), (0 : Int), (0 : Int), (0 : Int)⟩
  | .api_Var => ⟨[], []⟩
  | .l_api_Var => []
  | .api_Port => ⟨[], (0 : Int), (0 : Int), []⟩
  | .l_api_Port => []
  | .api_Mount => ⟨[], [], false⟩
  | .l_api_Mount => []
  | .api_Dep => ⟨[], (0 : Int), false, false⟩
  | .l_api_Dep => []
  | .api_Service => ⟨[], [], [], [], [], [], [], [], [], (0 : Int), ⟨[], (0 : Int), (0 : Int), (0 : Int)⟩, (0 : Int), (0 : Int), (0 : Int), (0 : Int)⟩
  | .l_api_Service => []
  | .api_Project => ⟨[], [], [], []⟩
  | .api_Command => ⟨(0 : Int), [], (0 : Int), false, false, (0 : Int), (0 : Int)⟩
  | .ref47_Tally => ⟨(0 : Int), (0 : Int), (0 : Int), (0 : Int), (0 : Int), (0 : Int), (0 : Int)⟩
  | .fn24 => (0 : Nat)
  | .audit_rule => ⟨[], (0 : Nat)⟩
  | .l_audit_rule => []
  | .complex => ((0, 0) : Int × Int)
  | .a4_complex => ⟨((0, 0) : Int × Int), ((0, 0) : Int × Int), ((0, 0) : Int × Int), ((0, 0) : Int × Int)⟩
  | .ref29_Point => ⟨(0 : Int), (0 : Int)⟩
  | .fn100 => (0 : Nat)
  | .byte => (0 : Int)
  | .float => (0 : Int)
  | .fn112 => (0 : Nat)
  | .fn119 => (0 : Nat)
  | .fn129 => (0 : Nat)
  | .l_int => []
  | .fn142 => (0 : Nat)
  | .a9_int => ⟨(0 : Int), (0 : Int), (0 : Int), (0 : Int), (0 : Int), (0 : Int), (0 : Int), (0 : Int), (0 : Int)⟩
def byteT : (t : Ty) → Option (Den t → Int)
  | .byte => some fun x => x
  | _ => none
theorem byte_ok : ∀ t f, byteT t = some f → ∀ x, cells t x = [.int .u8 (f x)] := by
  intro t f h x
  cases t <;> first | (cases h; rfl) | cases h
def byteU : (t : Ty) → Option (Int → Den t)
  | .byte => some fun x => x
  | _ => none
theorem byteU_ok : ∀ t g, byteU t = some g → ∀ n, cells t (g n) = [.int .u8 n] := by
  intro t g h n
  cases t <;> first | (cases h; rfl) | cases h
theorem fd_int_ok : ∀ cs x, fd_int cs = some x → CsLe cs (cells .int x) := by
  intro cs x h
  match cs, h with
  | [c], h => exact ⟨dInt_le h, trivial⟩
theorem fd_str_ok : ∀ cs x, fd_str cs = some x → CsLe cs (cells .str x) := by
  intro cs x h
  match cs, h with
  | [c], h => exact ⟨dStr_le h, trivial⟩
theorem fd_l_str_ok : ∀ cs x, fd_l_str cs = some x → CsLe cs (cells .l_str x) := by
  intro cs x h
  match cs, h with
  | [c], h => exact ⟨dSl_le h, trivial⟩
theorem fd_api_Check_ok : ∀ cs x, fd_api_Check cs = some x → CsLe cs (cells .api_Check x) := by
  intro cs x h
  match cs, h with
  | [c0, c1, c2, c3], h =>
    unfold fd_api_Check at h
    obtain ⟨y0, h0, h⟩ := Option.bind_eq_some_iff.1 h
    obtain ⟨y1, h1, h⟩ := Option.bind_eq_some_iff.1 h
    obtain ⟨y2, h2, h⟩ := Option.bind_eq_some_iff.1 h
    obtain ⟨y3, h3, h⟩ := Option.bind_eq_some_iff.1 h
    cases h
    exact ⟨dStr_le h0, dInt_le h1, dInt_le h2, dInt_le h3, trivial⟩
theorem fd_api_Spec_ok : ∀ cs x, fd_api_Spec cs = some x → CsLe cs (cells .api_Spec x) := by
  intro cs x h
  match cs, h with
  | [c0, c1, c2, c3, c4, c5, c6, c7, c8, c9, c10, c11, c12], h =>
    unfold fd_api_Spec at h
    obtain ⟨y0, h0, h⟩ := Option.bind_eq_some_iff.1 h
    obtain ⟨y1, h1, h⟩ := Option.bind_eq_some_iff.1 h
    obtain ⟨y2, h2, h⟩ := Option.bind_eq_some_iff.1 h
    obtain ⟨y3, h3, h⟩ := Option.bind_eq_some_iff.1 h
    obtain ⟨y4, h4, h⟩ := Option.bind_eq_some_iff.1 h
    obtain ⟨y5, h5, h⟩ := Option.bind_eq_some_iff.1 h
    obtain ⟨y6, h6, h⟩ := Option.bind_eq_some_iff.1 h
    obtain ⟨y7, h7, h⟩ := Option.bind_eq_some_iff.1 h
    obtain ⟨y8, h8, h⟩ := Option.bind_eq_some_iff.1 h
    obtain ⟨y9, h9, h⟩ := Option.bind_eq_some_iff.1 h
    obtain ⟨y10, h10, h⟩ := Option.bind_eq_some_iff.1 h
    obtain ⟨y11, h11, h⟩ := Option.bind_eq_some_iff.1 h
    obtain ⟨y12, h12, h⟩ := Option.bind_eq_some_iff.1 h
    cases h
    exact ⟨dStr_le h0, dStr_le h1, dStr_le h2, dInt_le h3, dStr_le h4, dSl_le h5, dSl_le h6, dStr_le h7, dInt_le h8, dInt_le h9, dInt_le h10, dInt_le h11, dInt_le h12, trivial⟩
theorem fd_api_Call_ok : ∀ cs x, fd_api_Call cs = some x → CsLe cs (cells .api_Call x) := by
  intro cs x h
  match cs, h with
  | [c0, c1, c2, c3, c4, c5, c6, c7, c8, c9, c10, c11, c12, c13, c14, c15], h =>
    unfold fd_api_Call at h
    obtain ⟨y0, h0, h⟩ := Option.bind_eq_some_iff.1 h
    obtain ⟨y1, h1, h⟩ := Option.bind_eq_some_iff.1 h
    obtain ⟨y2, h2, h⟩ := Option.bind_eq_some_iff.1 h
    obtain ⟨y3, h3, h⟩ := Option.bind_eq_some_iff.1 h
    obtain ⟨y4, h4, h⟩ := Option.bind_eq_some_iff.1 h
    obtain ⟨y5, h5, h⟩ := Option.bind_eq_some_iff.1 h
    obtain ⟨y6, h6, h⟩ := Option.bind_eq_some_iff.1 h
    obtain ⟨y7, h7, h⟩ := Option.bind_eq_some_iff.1 h
    obtain ⟨y8, h8, h⟩ := Option.bind_eq_some_iff.1 h
    obtain ⟨y9, h9, h⟩ := Option.bind_eq_some_iff.1 h
    obtain ⟨y10, h10, h⟩ := Option.bind_eq_some_iff.1 h
    obtain ⟨y11, h11, h⟩ := Option.bind_eq_some_iff.1 h
    obtain ⟨y12, h12, h⟩ := Option.bind_eq_some_iff.1 h
    obtain ⟨y13, h13, h⟩ := Option.bind_eq_some_iff.1 h
    obtain ⟨y14, h14, h⟩ := Option.bind_eq_some_iff.1 h
    obtain ⟨y15, h15, h⟩ := Option.bind_eq_some_iff.1 h
    cases h
    exact ⟨dInt_le h0, dStr_le h1, dInt_le h2, dStr_le h3, dStr_le h4, dStr_le h5, dInt_le h6, dStr_le h7, dSl_le h8, dSl_le h9, dStr_le h10, dInt_le h11, dInt_le h12, dInt_le h13, dInt_le h14, dInt_le h15, trivial⟩
theorem fd_api_Errno_ok : ∀ cs x, fd_api_Errno cs = some x → CsLe cs (cells .api_Errno x) := by
  intro cs x h
  match cs, h with
  | [c], h => exact ⟨dInt_le h, trivial⟩
theorem fd_ref44_Note_ok : ∀ cs x, fd_ref44_Note cs = some x → CsLe cs (cells .ref44_Note x) := by
  intro cs x h
  match cs, h with
  | [c0, c1, c2, c3, c4, c5, c6, c7, c8, c9, c10, c11, c12, c13, c14, c15, c16, c17, c18, c19, c20, c21], h =>
    unfold fd_ref44_Note at h
    obtain ⟨y0, h0, h⟩ := Option.bind_eq_some_iff.1 h
    obtain ⟨y1, h1, h⟩ := Option.bind_eq_some_iff.1 h
    obtain ⟨y2, h2, h⟩ := Option.bind_eq_some_iff.1 h
    obtain ⟨y3, h3, h⟩ := Option.bind_eq_some_iff.1 h
    obtain ⟨y4, h4, h⟩ := Option.bind_eq_some_iff.1 h
    obtain ⟨y5, h5, h⟩ := Option.bind_eq_some_iff.1 h
    obtain ⟨y6, h6, h⟩ := Option.bind_eq_some_iff.1 h
    obtain ⟨y7, h7, h⟩ := Option.bind_eq_some_iff.1 h
    obtain ⟨y8, h8, h⟩ := Option.bind_eq_some_iff.1 h
    obtain ⟨y9, h9, h⟩ := Option.bind_eq_some_iff.1 h
    obtain ⟨y10, h10, h⟩ := Option.bind_eq_some_iff.1 h
    obtain ⟨y11, h11, h⟩ := Option.bind_eq_some_iff.1 h
    obtain ⟨y12, h12, h⟩ := Option.bind_eq_some_iff.1 h
    obtain ⟨y13, h13, h⟩ := Option.bind_eq_some_iff.1 h
    obtain ⟨y14, h14, h⟩ := Option.bind_eq_some_iff.1 h
    obtain ⟨y15, h15, h⟩ := Option.bind_eq_some_iff.1 h
    obtain ⟨y16, h16, h⟩ := Option.bind_eq_some_iff.1 h
    obtain ⟨y17, h17, h⟩ := Option.bind_eq_some_iff.1 h
    obtain ⟨y18, h18, h⟩ := Option.bind_eq_some_iff.1 h
    obtain ⟨y19, h19, h⟩ := Option.bind_eq_some_iff.1 h
    obtain ⟨y20, h20, h⟩ := Option.bind_eq_some_iff.1 h
    obtain ⟨y21, h21, h⟩ := Option.bind_eq_some_iff.1 h
    cases h
    exact ⟨dInt_le h0, dInt_le h1, dStr_le h2, dInt_le h3, dStr_le h4, dInt_le h5, dStr_le h6, dStr_le h7, dStr_le h8, dInt_le h9, dStr_le h10, dSl_le h11, dSl_le h12, dStr_le h13, dInt_le h14, dInt_le h15, dInt_le h16, dInt_le h17, dInt_le h18, dInt_le h19, dInt_le h20, dInt_le h21, trivial⟩
theorem fd_l_ref44_Note_ok : ∀ cs x, fd_l_ref44_Note cs = some x → CsLe cs (cells .l_ref44_Note x) := by
  intro cs x h
  match cs, h with
  | [c], h => exact ⟨dSl_le h, trivial⟩
theorem fd_bool_ok : ∀ cs x, fd_bool cs = some x → CsLe cs (cells .bool x) := by
  intro cs x h
  match cs, h with
  | [c], h => exact ⟨dBl_le h, trivial⟩
theorem fd_event_Note_ok : ∀ cs x, fd_event_Note cs = some x → CsLe cs (cells .event_Note x) := by
  intro cs x h
  match cs, h with
  | [c0, c1, c2, c3, c4, c5, c6, c7, c8, c9, c10, c11, c12, c13, c14, c15, c16, c17, c18, c19, c20, c21], h =>
    unfold fd_event_Note at h
    obtain ⟨y0, h0, h⟩ := Option.bind_eq_some_iff.1 h
    obtain ⟨y1, h1, h⟩ := Option.bind_eq_some_iff.1 h
    obtain ⟨y2, h2, h⟩ := Option.bind_eq_some_iff.1 h
    obtain ⟨y3, h3, h⟩ := Option.bind_eq_some_iff.1 h
    obtain ⟨y4, h4, h⟩ := Option.bind_eq_some_iff.1 h
    obtain ⟨y5, h5, h⟩ := Option.bind_eq_some_iff.1 h
    obtain ⟨y6, h6, h⟩ := Option.bind_eq_some_iff.1 h
    obtain ⟨y7, h7, h⟩ := Option.bind_eq_some_iff.1 h
    obtain ⟨y8, h8, h⟩ := Option.bind_eq_some_iff.1 h
    obtain ⟨y9, h9, h⟩ := Option.bind_eq_some_iff.1 h
    obtain ⟨y10, h10, h⟩ := Option.bind_eq_some_iff.1 h
    obtain ⟨y11, h11, h⟩ := Option.bind_eq_some_iff.1 h
    obtain ⟨y12, h12, h⟩ := Option.bind_eq_some_iff.1 h
    obtain ⟨y13, h13, h⟩ := Option.bind_eq_some_iff.1 h
    obtain ⟨y14, h14, h⟩ := Option.bind_eq_some_iff.1 h
    obtain ⟨y15, h15, h⟩ := Option.bind_eq_some_iff.1 h
    obtain ⟨y16, h16, h⟩ := Option.bind_eq_some_iff.1 h
    obtain ⟨y17, h17, h⟩ := Option.bind_eq_some_iff.1 h
    obtain ⟨y18, h18, h⟩ := Option.bind_eq_some_iff.1 h
    obtain ⟨y19, h19, h⟩ := Option.bind_eq_some_iff.1 h
    obtain ⟨y20, h20, h⟩ := Option.bind_eq_some_iff.1 h
    obtain ⟨y21, h21, h⟩ := Option.bind_eq_some_iff.1 h
    cases h
    exact ⟨dInt_le h0, dInt_le h1, dStr_le h2, dInt_le h3, dStr_le h4, dInt_le h5, dStr_le h6, dStr_le h7, dStr_le h8, dInt_le h9, dStr_le h10, dSl_le h11, dSl_le h12, dStr_le h13, dInt_le h14, dInt_le h15, dInt_le h16, dInt_le h17, dInt_le h18, dInt_le h19, dInt_le h20, dInt_le h21, trivial⟩
theorem fd_l_event_Note_ok : ∀ cs x, fd_l_event_Note cs = some x → CsLe cs (cells .l_event_Note x) := by
  intro cs x h
  match cs, h with
  | [c], h => exact ⟨dSl_le h, trivial⟩
theorem fd_l_bool_ok : ∀ cs x, fd_l_bool cs = some x → CsLe cs (cells .l_bool x) := by
  intro cs x h
  match cs, h with
  | [c], h => exact ⟨dSl_le h, trivial⟩
theorem fd_api_Container_ok : ∀ cs x, fd_api_Container cs = some x → CsLe cs (cells .api_Container x) := by
  intro cs x h
  match cs, h with
  | [c0, c1, c2, c3, c4, c5, c6, c7, c8, c9, c10, c11, c12, c13, c14, c15, c16, c17], h =>
    unfold fd_api_Container at h
    obtain ⟨y0, h0, h⟩ := Option.bind_eq_some_iff.1 h
    obtain ⟨y1, h1, h⟩ := Option.bind_eq_some_iff.1 h
    obtain ⟨y2, h2, h⟩ := Option.bind_eq_some_iff.1 h
    obtain ⟨y3, h3, h⟩ := Option.bind_eq_some_iff.1 h
    obtain ⟨y4, h4, h⟩ := Option.bind_eq_some_iff.1 h
    obtain ⟨y5, h5, h⟩ := Option.bind_eq_some_iff.1 h
    obtain ⟨y6, h6, h⟩ := Option.bind_eq_some_iff.1 h
    obtain ⟨y7, h7, h⟩ := Option.bind_eq_some_iff.1 h
    obtain ⟨y8, h8, h⟩ := Option.bind_eq_some_iff.1 h
    obtain ⟨y9, h9, h⟩ := Option.bind_eq_some_iff.1 h
    obtain ⟨y10, h10, h⟩ := Option.bind_eq_some_iff.1 h
    obtain ⟨y11, h11, h⟩ := Option.bind_eq_some_iff.1 h
    obtain ⟨y12, h12, h⟩ := Option.bind_eq_some_iff.1 h
    obtain ⟨y13, h13, h⟩ := Option.bind_eq_some_iff.1 h
    obtain ⟨y14, h14, h⟩ := Option.bind_eq_some_iff.1 h
    obtain ⟨y15, h15, h⟩ := Option.bind_eq_some_iff.1 h
    obtain ⟨y16, h16, h⟩ := Option.bind_eq_some_iff.1 h
    obtain ⟨y17, h17, h⟩ := Option.bind_eq_some_iff.1 h
    cases h
    exact ⟨dInt_le h0, dStr_le h1, dStr_le h2, dStr_le h3, dInt_le h4, dStr_le h5, dSl_le h6, dSl_le h7, dStr_le h8, dInt_le h9, dInt_le h10, dInt_le h11, dInt_le h12, dInt_le h13, dInt_le h14, dInt_le h15, dInt_le h16, dInt_le h17, trivial⟩
theorem fd_l_api_Container_ok : ∀ cs x, fd_l_api_Container cs = some x → CsLe cs (cells .l_api_Container x) := by
  intro cs x h
  match cs, h with
  | [c], h => exact ⟨dSl_le h, trivial⟩
theorem fd_api_Kept_ok : ∀ cs x, fd_api_Kept cs = some x → CsLe cs (cells .api_Kept x) := by
  intro cs x h
  match cs, h with
  | [c0, c1], h =>
    unfold fd_api_Kept at h
    obtain ⟨y0, h0, h⟩ := Option.bind_eq_some_iff.1 h
    obtain ⟨y1, h1, h⟩ := Option.bind_eq_some_iff.1 h
    cases h
    exact ⟨dStr_le h0, dStr_le h1, trivial⟩
theorem fd_l_api_Kept_ok : ∀ cs x, fd_l_api_Kept cs = some x → CsLe cs (cells .l_api_Kept x) := by
  intro cs x h
  match cs, h with
  | [c], h => exact ⟨dSl_le h, trivial⟩
theorem fd_view_Seen_ok : ∀ cs x, fd_view_Seen cs = some x → CsLe cs (cells .view_Seen x) := by
  intro cs x h
  match cs, h with
  | [c0, c1, c2], h =>
    unfold fd_view_Seen at h
    obtain ⟨y0, h0, h⟩ := Option.bind_eq_some_iff.1 h
    obtain ⟨y1, h1, h⟩ := Option.bind_eq_some_iff.1 h
    obtain ⟨y2, h2, h⟩ := Option.bind_eq_some_iff.1 h
    cases h
    exact ⟨dSl_le h0, dSl_le h1, dSl_le h2, trivial⟩
theorem fd_audit_Tally_ok : ∀ cs x, fd_audit_Tally cs = some x → CsLe cs (cells .audit_Tally x) := by
  intro cs x h
  match cs, h with
  | [c0, c1, c2, c3, c4, c5, c6], h =>
    unfold fd_audit_Tally at h
    obtain ⟨y0, h0, h⟩ := Option.bind_eq_some_iff.1 h
    obtain ⟨y1, h1, h⟩ := Option.bind_eq_some_iff.1 h
    obtain ⟨y2, h2, h⟩ := Option.bind_eq_some_iff.1 h
    obtain ⟨y3, h3, h⟩ := Option.bind_eq_some_iff.1 h
    obtain ⟨y4, h4, h⟩ := Option.bind_eq_some_iff.1 h
    obtain ⟨y5, h5, h⟩ := Option.bind_eq_some_iff.1 h
    obtain ⟨y6, h6, h⟩ := Option.bind_eq_some_iff.1 h
    cases h
    exact ⟨dInt_le h0, dInt_le h1, dInt_le h2, dInt_le h3, dInt_le h4, dInt_le h5, dInt_le h6, trivial⟩
theorem fd_api_Var_ok : ∀ cs x, fd_api_Var cs = some x → CsLe cs (cells .api_Var x) := by
  intro cs x h
  match cs, h with
  | [c0, c1], h =>
    unfold fd_api_Var at h
    obtain ⟨y0, h0, h⟩ := Option.bind_eq_some_iff.1 h
    obtain ⟨y1, h1, h⟩ := Option.bind_eq_some_iff.1 h
    cases h
    exact ⟨dStr_le h0, dStr_le h1, trivial⟩
theorem fd_l_api_Var_ok : ∀ cs x, fd_l_api_Var cs = some x → CsLe cs (cells .l_api_Var x) := by
  intro cs x h
  match cs, h with
  | [c], h => exact ⟨dSl_le h, trivial⟩
theorem fd_api_Port_ok : ∀ cs x, fd_api_Port cs = some x → CsLe cs (cells .api_Port x) := by
  intro cs x h
  match cs, h with
  | [c0, c1, c2, c3], h =>
    unfold fd_api_Port at h
    obtain ⟨y0, h0, h⟩ := Option.bind_eq_some_iff.1 h
    obtain ⟨y1, h1, h⟩ := Option.bind_eq_some_iff.1 h
    obtain ⟨y2, h2, h⟩ := Option.bind_eq_some_iff.1 h
    obtain ⟨y3, h3, h⟩ := Option.bind_eq_some_iff.1 h
    cases h
    exact ⟨dStr_le h0, dInt_le h1, dInt_le h2, dStr_le h3, trivial⟩
theorem fd_l_api_Port_ok : ∀ cs x, fd_l_api_Port cs = some x → CsLe cs (cells .l_api_Port x) := by
  intro cs x h
  match cs, h with
  | [c], h => exact ⟨dSl_le h, trivial⟩
theorem fd_api_Mount_ok : ∀ cs x, fd_api_Mount cs = some x → CsLe cs (cells .api_Mount x) := by
  intro cs x h
  match cs, h with
  | [c0, c1, c2], h =>
    unfold fd_api_Mount at h
    obtain ⟨y0, h0, h⟩ := Option.bind_eq_some_iff.1 h
    obtain ⟨y1, h1, h⟩ := Option.bind_eq_some_iff.1 h
    obtain ⟨y2, h2, h⟩ := Option.bind_eq_some_iff.1 h
    cases h
    exact ⟨dStr_le h0, dStr_le h1, dBl_le h2, trivial⟩
theorem fd_l_api_Mount_ok : ∀ cs x, fd_l_api_Mount cs = some x → CsLe cs (cells .l_api_Mount x) := by
  intro cs x h
  match cs, h with
  | [c], h => exact ⟨dSl_le h, trivial⟩
theorem fd_api_Dep_ok : ∀ cs x, fd_api_Dep cs = some x → CsLe cs (cells .api_Dep x) := by
  intro cs x h
  match cs, h with
  | [c0, c1, c2, c3], h =>
    unfold fd_api_Dep at h
    obtain ⟨y0, h0, h⟩ := Option.bind_eq_some_iff.1 h
    obtain ⟨y1, h1, h⟩ := Option.bind_eq_some_iff.1 h
    obtain ⟨y2, h2, h⟩ := Option.bind_eq_some_iff.1 h
    obtain ⟨y3, h3, h⟩ := Option.bind_eq_some_iff.1 h
    cases h
    exact ⟨dStr_le h0, dInt_le h1, dBl_le h2, dBl_le h3, trivial⟩
theorem fd_l_api_Dep_ok : ∀ cs x, fd_l_api_Dep cs = some x → CsLe cs (cells .l_api_Dep x) := by
  intro cs x h
  match cs, h with
  | [c], h => exact ⟨dSl_le h, trivial⟩
theorem fd_api_Service_ok : ∀ cs x, fd_api_Service cs = some x → CsLe cs (cells .api_Service x) := by
  intro cs x h
  match cs, h with
  | [c0, c1, c2, c3, c4, c5, c6, c7, c8, c9, c10, c11, c12, c13, c14, c15, c16, c17], h =>
    unfold fd_api_Service at h
    obtain ⟨y0, h0, h⟩ := Option.bind_eq_some_iff.1 h
    obtain ⟨y1, h1, h⟩ := Option.bind_eq_some_iff.1 h
    obtain ⟨y2, h2, h⟩ := Option.bind_eq_some_iff.1 h
    obtain ⟨y3, h3, h⟩ := Option.bind_eq_some_iff.1 h
    obtain ⟨y4, h4, h⟩ := Option.bind_eq_some_iff.1 h
    obtain ⟨y5, h5, h⟩ := Option.bind_eq_some_iff.1 h
    obtain ⟨y6, h6, h⟩ := Option.bind_eq_some_iff.1 h
    obtain ⟨y7, h7, h⟩ := Option.bind_eq_some_iff.1 h
    obtain ⟨y8, h8, h⟩ := Option.bind_eq_some_iff.1 h
    obtain ⟨y9, h9, h⟩ := Option.bind_eq_some_iff.1 h
    obtain ⟨y10, h10, h⟩ := Option.bind_eq_some_iff.1 h
    obtain ⟨y11, h11, h⟩ := Option.bind_eq_some_iff.1 h
    obtain ⟨y12, h12, h⟩ := Option.bind_eq_some_iff.1 h
    obtain ⟨y13, h13, h⟩ := Option.bind_eq_some_iff.1 h
    obtain ⟨y14, h14, h⟩ := Option.bind_eq_some_iff.1 h
    obtain ⟨y15, h15, h⟩ := Option.bind_eq_some_iff.1 h
    obtain ⟨y16, h16, h⟩ := Option.bind_eq_some_iff.1 h
    obtain ⟨y17, h17, h⟩ := Option.bind_eq_some_iff.1 h
    cases h
    exact ⟨dStr_le h0, dStr_le h1, dSl_le h2, dSl_le h3, dSl_le h4, dSl_le h5, dSl_le h6, dSl_le h7, dSl_le h8, dInt_le h9, dStr_le h10, dInt_le h11, dInt_le h12, dInt_le h13, dInt_le h14, dInt_le h15, dInt_le h16, dInt_le h17, trivial⟩
theorem fd_l_api_Service_ok : ∀ cs x, fd_l_api_Service cs = some x → CsLe cs (cells .l_api_Service x) := by
  intro cs x h
  match cs, h with
  | [c], h => exact ⟨dSl_le h, trivial⟩
theorem fd_api_Project_ok : ∀ cs x, fd_api_Project cs = some x → CsLe cs (cells .api_Project x) := by
  intro cs x h
  match cs, h with
  | [c0, c1, c2, c3], h =>
    unfold fd_api_Project at h
    obtain ⟨y0, h0, h⟩ := Option.bind_eq_some_iff.1 h
    obtain ⟨y1, h1, h⟩ := Option.bind_eq_some_iff.1 h
    obtain ⟨y2, h2, h⟩ := Option.bind_eq_some_iff.1 h
    obtain ⟨y3, h3, h⟩ := Option.bind_eq_some_iff.1 h
    cases h
    exact ⟨dStr_le h0, dSl_le h1, dSl_le h2, dSl_le h3, trivial⟩
theorem fd_api_Command_ok : ∀ cs x, fd_api_Command cs = some x → CsLe cs (cells .api_Command x) := by
  intro cs x h
  match cs, h with
  | [c0, c1, c2, c3, c4, c5, c6], h =>
    unfold fd_api_Command at h
    obtain ⟨y0, h0, h⟩ := Option.bind_eq_some_iff.1 h
    obtain ⟨y1, h1, h⟩ := Option.bind_eq_some_iff.1 h
    obtain ⟨y2, h2, h⟩ := Option.bind_eq_some_iff.1 h
    obtain ⟨y3, h3, h⟩ := Option.bind_eq_some_iff.1 h
    obtain ⟨y4, h4, h⟩ := Option.bind_eq_some_iff.1 h
    obtain ⟨y5, h5, h⟩ := Option.bind_eq_some_iff.1 h
    obtain ⟨y6, h6, h⟩ := Option.bind_eq_some_iff.1 h
    cases h
    exact ⟨dInt_le h0, dSl_le h1, dInt_le h2, dBl_le h3, dBl_le h4, dInt_le h5, dInt_le h6, trivial⟩
theorem fd_ref47_Tally_ok : ∀ cs x, fd_ref47_Tally cs = some x → CsLe cs (cells .ref47_Tally x) := by
  intro cs x h
  match cs, h with
  | [c0, c1, c2, c3, c4, c5, c6], h =>
    unfold fd_ref47_Tally at h
    obtain ⟨y0, h0, h⟩ := Option.bind_eq_some_iff.1 h
    obtain ⟨y1, h1, h⟩ := Option.bind_eq_some_iff.1 h
    obtain ⟨y2, h2, h⟩ := Option.bind_eq_some_iff.1 h
    obtain ⟨y3, h3, h⟩ := Option.bind_eq_some_iff.1 h
    obtain ⟨y4, h4, h⟩ := Option.bind_eq_some_iff.1 h
    obtain ⟨y5, h5, h⟩ := Option.bind_eq_some_iff.1 h
    obtain ⟨y6, h6, h⟩ := Option.bind_eq_some_iff.1 h
    cases h
    exact ⟨dInt_le h0, dInt_le h1, dInt_le h2, dInt_le h3, dInt_le h4, dInt_le h5, dInt_le h6, trivial⟩
theorem fd_fn24_ok : ∀ cs x, fd_fn24 cs = some x → CsLe cs (cells .fn24 x) := by
  intro cs x h
  match cs, h with
  | [c], h => exact ⟨dFn_le h, trivial⟩
theorem fd_audit_rule_ok : ∀ cs x, fd_audit_rule cs = some x → CsLe cs (cells .audit_rule x) := by
  intro cs x h
  match cs, h with
  | [c0, c1], h =>
    unfold fd_audit_rule at h
    obtain ⟨y0, h0, h⟩ := Option.bind_eq_some_iff.1 h
    obtain ⟨y1, h1, h⟩ := Option.bind_eq_some_iff.1 h
    cases h
    exact ⟨dStr_le h0, dFn_le h1, trivial⟩
theorem fd_l_audit_rule_ok : ∀ cs x, fd_l_audit_rule cs = some x → CsLe cs (cells .l_audit_rule x) := by
  intro cs x h
  match cs, h with
  | [c], h => exact ⟨dSl_le h, trivial⟩
theorem fd_complex_ok : ∀ cs x, fd_complex cs = some x → CsLe cs (cells .complex x) := by
  intro cs x h
  match cs, h with
  | [c], h => exact ⟨dCpx_le h, trivial⟩
theorem fd_a4_complex_ok : ∀ cs x, fd_a4_complex cs = some x → CsLe cs (cells .a4_complex x) := by
  intro cs x h
  match cs, h with
  | [c0, c1, c2, c3], h =>
    unfold fd_a4_complex at h
    obtain ⟨y0, h0, h⟩ := Option.bind_eq_some_iff.1 h
    obtain ⟨y1, h1, h⟩ := Option.bind_eq_some_iff.1 h
    obtain ⟨y2, h2, h⟩ := Option.bind_eq_some_iff.1 h
    obtain ⟨y3, h3, h⟩ := Option.bind_eq_some_iff.1 h
    cases h
    exact ⟨dCpx_le h0, dCpx_le h1, dCpx_le h2, dCpx_le h3, trivial⟩
theorem fd_ref29_Point_ok : ∀ cs x, fd_ref29_Point cs = some x → CsLe cs (cells .ref29_Point x) := by
  intro cs x h
  match cs, h with
  | [c0, c1], h =>
    unfold fd_ref29_Point at h
    obtain ⟨y0, h0, h⟩ := Option.bind_eq_some_iff.1 h
    obtain ⟨y1, h1, h⟩ := Option.bind_eq_some_iff.1 h
    cases h
    exact ⟨dInt_le h0, dInt_le h1, trivial⟩
theorem fd_fn100_ok : ∀ cs x, fd_fn100 cs = some x → CsLe cs (cells .fn100 x) := by
  intro cs x h
  match cs, h with
  | [c], h => exact ⟨dFn_le h, trivial⟩
theorem fd_byte_ok : ∀ cs x, fd_byte cs = some x → CsLe cs (cells .byte x) := by
  intro cs x h
  match cs, h with
  | [c], h => exact ⟨dInt_le h, trivial⟩
theorem fd_float_ok : ∀ cs x, fd_float cs = some x → CsLe cs (cells .float x) := by
  intro cs x h
  match cs, h with
  | [c], h => exact ⟨dFlt_le h, trivial⟩
theorem fd_fn112_ok : ∀ cs x, fd_fn112 cs = some x → CsLe cs (cells .fn112 x) := by
  intro cs x h
  match cs, h with
  | [c], h => exact ⟨dFn_le h, trivial⟩
theorem fd_fn119_ok : ∀ cs x, fd_fn119 cs = some x → CsLe cs (cells .fn119 x) := by
  intro cs x h
  match cs, h with
  | [c], h => exact ⟨dFn_le h, trivial⟩
theorem fd_fn129_ok : ∀ cs x, fd_fn129 cs = some x → CsLe cs (cells .fn129 x) := by
  intro cs x h
  match cs, h with
  | [c], h => exact ⟨dFn_le h, trivial⟩
theorem fd_l_int_ok : ∀ cs x, fd_l_int cs = some x → CsLe cs (cells .l_int x) := by
  intro cs x h
  match cs, h with
  | [c], h => exact ⟨dSl_le h, trivial⟩
theorem fd_fn142_ok : ∀ cs x, fd_fn142 cs = some x → CsLe cs (cells .fn142 x) := by
  intro cs x h
  match cs, h with
  | [c], h => exact ⟨dFn_le h, trivial⟩
theorem fd_a9_int_ok : ∀ cs x, fd_a9_int cs = some x → CsLe cs (cells .a9_int x) := by
  intro cs x h
  match cs, h with
  | [c0, c1, c2, c3, c4, c5, c6, c7, c8], h =>
    unfold fd_a9_int at h
    obtain ⟨y0, h0, h⟩ := Option.bind_eq_some_iff.1 h
    obtain ⟨y1, h1, h⟩ := Option.bind_eq_some_iff.1 h
    obtain ⟨y2, h2, h⟩ := Option.bind_eq_some_iff.1 h
    obtain ⟨y3, h3, h⟩ := Option.bind_eq_some_iff.1 h
    obtain ⟨y4, h4, h⟩ := Option.bind_eq_some_iff.1 h
    obtain ⟨y5, h5, h⟩ := Option.bind_eq_some_iff.1 h
    obtain ⟨y6, h6, h⟩ := Option.bind_eq_some_iff.1 h
    obtain ⟨y7, h7, h⟩ := Option.bind_eq_some_iff.1 h
    obtain ⟨y8, h8, h⟩ := Option.bind_eq_some_iff.1 h
    cases h
    exact ⟨dInt_le h0, dInt_le h1, dInt_le h2, dInt_le h3, dInt_le h4, dInt_le h5, dInt_le h6, dInt_le h7, dInt_le h8, trivial⟩
theorem fold_ok : ∀ t cs x, fold t cs = some x → CsLe cs (cells t x) := fun t => match t with
  | .int => fd_int_ok
  | .str => fd_str_ok
  | .l_str => fd_l_str_ok
  | .api_Check => fd_api_Check_ok
  | .api_Spec => fd_api_Spec_ok
  | .api_Call => fd_api_Call_ok
  | .api_Errno => fd_api_Errno_ok
  | .ref44_Note => fd_ref44_Note_ok
  | .l_ref44_Note => fd_l_ref44_Note_ok
  | .bool => fd_bool_ok
  | .event_Note => fd_event_Note_ok
  | .l_event_Note => fd_l_event_Note_ok
  | .l_bool => fd_l_bool_ok
  | .api_Container => fd_api_Container_ok
  | .l_api_Container => fd_l_api_Container_ok
  | .api_Kept => fd_api_Kept_ok
  | .l_api_Kept => fd_l_api_Kept_ok
  | .view_Seen => fd_view_Seen_ok
  | .audit_Tally => fd_audit_Tally_ok
  | .api_Var => fd_api_Var_ok
  | .l_api_Var => fd_l_api_Var_ok
  | .api_Port => fd_api_Port_ok
  | .l_api_Port => fd_l_api_Port_ok
  | .api_Mount => fd_api_Mount_ok
  | .l_api_Mount => fd_l_api_Mount_ok
  | .api_Dep => fd_api_Dep_ok
  | .l_api_Dep => fd_l_api_Dep_ok
  | .api_Service => fd_api_Service_ok
  | .l_api_Service => fd_l_api_Service_ok
  | .api_Project => fd_api_Project_ok
  | .api_Command => fd_api_Command_ok
  | .ref47_Tally => fd_ref47_Tally_ok
  | .fn24 => fd_fn24_ok
  | .audit_rule => fd_audit_rule_ok
  | .l_audit_rule => fd_l_audit_rule_ok
  | .complex => fd_complex_ok
  | .a4_complex => fd_a4_complex_ok
  | .ref29_Point => fd_ref29_Point_ok
  | .fn100 => fd_fn100_ok
  | .byte => fd_byte_ok
  | .float => fd_float_ok
  | .fn112 => fd_fn112_ok
  | .fn119 => fd_fn119_ok
  | .fn129 => fd_fn129_ok
  | .l_int => fd_l_int_ok
  | .fn142 => fd_fn142_ok
  | .a9_int => fd_a9_int_ok
theorem code_ok : ∀ i t, code i = some t → i = tid t := by
  intro i t h
  unfold code at h
  split at h <;> first | (cases h; rfl) | cases h
theorem info_ok : ∀ t, ∃ i z, Tryz.prog.info? (tid t) = some i ∧ i.size = size t ∧ i.bytes = bytes t ∧ i.zero = some z ∧ z.cells.size = size t := by
  intro t
  refine info_of ?_ rfl
  cases t <;> kernel_rfl
theorem agg_ok : ∀ t, isAggT Tryz.prog (tid t) = agg t := by intro t; cases t <;> kernel_rfl
theorem und_ok : ∀ t, (Tryz.prog.underlying (tid t)).isSome = true := by intro t; cases t <;> kernel_rfl
abbrev E : Env Tryz.prog where
  Ty := Ty
  dec := dec
  Den := Den
  tid := tid
  code := code
  agg := agg
  size := size
  bytes := bytes
  cells := cells
  fold := fold
  code_ok := code_ok
  info_ok := info_ok
  agg_ok := agg_ok
  und_ok := und_ok
  size_pos := by intro t; cases t <;> decide
  bytes_pos := by intro t; cases t <;> decide
  one := by intro t h; cases t <;> first | rfl | cases h
  cells_len := by intro t x; cases t <;> rfl
  dflt := dflt
  fold_ok := fold_ok
  byteT := byteT
  byteU := byteU
  byte_ok := byte_ok
  byteU_ok := byteU_ok
theorem mix : Tryz.prog.follows .mixedOrders = true := by kernel_rfl
def w64 (n : Int) : Int := IntKind.wrap .i64 n
theorem w64_id {n : Int} (h : -9223372036854775808 ≤ n) (h' : n ≤ 9223372036854775807) : w64 n = n := by
  unfold w64
  rw [IntKind.wrap_i64]
  omega
theorem and3 (n : Int) : bits .and .i64 n 3 = n % 4 := by
  have h3 : (BitVec.ofInt 64 3).toNat = 2 ^ 2 - 1 := by decide
  have key : (BitVec.ofInt 64 n &&& BitVec.ofInt 64 3).toNat = (n % ((2 ^ 64 : Nat) : Int)).toNat % 2 ^ 2 := by
    rw [BitVec.toNat_and, BitVec.toNat_ofInt, h3, Nat.and_two_pow_sub_one_eq_mod]
  show IntKind.i64.wrap ((BitVec.ofInt 64 n &&& BitVec.ofInt 64 3).toNat : Nat) = n % 4
  rw [key, IntKind.wrap_i64]
  omega
theorem sq_bd (x : Int) (h1 : -1048576 ≤ x) (h2 : x ≤ 1048576) : 0 ≤ x * x ∧ x * x ≤ 1099511627776 := by
  have e : x * x = ((x.natAbs * x.natAbs : Nat) : Int) := by rw [Int.natAbs_mul_self]
  have : x.natAbs * x.natAbs ≤ 1048576 * 1048576 := Nat.mul_le_mul (by omega) (by omega)
  omega
theorem tmod4 (n : Int) : (n.tmod 4 = 0 ∧ n % 4 = 0) ∨ (n.tmod 4 = 1 ∧ n % 4 = 1) ∨ (n.tmod 4 = 2 ∧ n % 4 = 2) ∨ (n.tmod 4 = 3 ∧ n % 4 = 3) ∨ (n.tmod 4 = -1 ∧ n % 4 = 3) ∨ (n.tmod 4 = -2 ∧ n % 4 = 2) ∨ (n.tmod 4 = -3 ∧ n % 4 = 1) := by
  rcases Int.le_total 0 n with h | h
  · have := Int.tmod_eq_emod_of_nonneg (b := 4) h
    omega
  · have e : n.tmod 4 = -((-n) % 4) := by
      rw [← Int.tmod_eq_emod_of_nonneg (by omega), Int.neg_tmod, Int.neg_neg]
    omega
theorem m4 (n : Int) : n % 4 = 0 ∨ n % 4 = 1 ∨ n % 4 = 2 ∨ n % 4 = 3 := by omega
abbrev C := Int × Int
def q4 (n : Int) : C := if n % 4 = 0 then (1, 0) else if n % 4 = 1 then (0, 1) else if n % 4 = 2 then (-1, 0) else (0, -1)
def addC (x y : C) : C := (x.1 + y.1, x.2 + y.2)
def okC (z : C) : Bool := fltOk z.1 && fltOk z.2
def inR (x : Int) : Bool := decide (-1048576 ≤ x) && decide (x ≤ 1048576)
def inC (z : C) : Bool := inR z.1 && inR z.2
theorem fltOk_of {n : Int} (h : -9007199254740992 < n) (h' : n < 9007199254740992) : fltOk n = true := by
  simp only [fltOk, decide_eq_true_eq]; omega
theorem sumOk_of {n : Int} (h : -4503599627370496 < n) (h' : n < 4503599627370496) : sumOk n = true := by
  simp only [sumOk, decide_eq_true_eq]; omega
theorem inR_iff {x : Int} : inR x = true ↔ -1048576 ≤ x ∧ x ≤ 1048576 := by simp [inR]
theorem inC_iff {z : C} : inC z = true ↔ (-1048576 ≤ z.1 ∧ z.1 ≤ 1048576) ∧ -1048576 ≤ z.2 ∧ z.2 ≤ 1048576 := by simp [inC, inR_iff]
theorem q4_bd (n : Int) : (-1 ≤ (q4 n).1 ∧ (q4 n).1 ≤ 1) ∧ -1 ≤ (q4 n).2 ∧ (q4 n).2 ≤ 1 := by
  unfold q4
  split <;> (try split) <;> (try split) <;> decide
noncomputable def wunit_W : FnW E := fn1 (E := E) .int .complex (fun _ => true) q4
def wunit_id : FuncId := 50
noncomputable def wunit_O : Oracle E := orac [] [] [] []
noncomputable def wunit_H : Hint E := Hint.mk [] [] [] [] [] 5 []
noncomputable def wunit_t (_G : Nat → ASt E → Option (List (TV E))) (x0 : Int) : Option (List (TV E)) :=
  bif (decide ((0 : Int) ≤ (bits .and .i64 x0 3)) && decide ((bits .and .i64 x0 3) < (4 : Int))) then some [⟨.complex, (List.getD ([(((1 : Int), (0 : Int)) : Int × Int), (((0 : Int), (1 : Int)) : Int × Int), (((-1 : Int), (0 : Int)) : Int × Int), (((0 : Int), (-1 : Int)) : Int × Int)] : List (Int × Int)) (Int.toNat (bits .and .i64 x0 3)) (dflt .complex))⟩] else none
theorem wunit_e (G : Nat → ASt E → Option (List (TV E))) (x0 : Int) : runE wunit_O wunit_H G Tryz.f50 [⟨.int, x0⟩] = wunit_t G x0 := by kernel_rfl
theorem wunit_f : Tryz.prog.funcs[50]? = some Tryz.f50 := by kernel_rfl
theorem wunit_n : (Tryz.f50.name == "runtime.NumGoroutine") = false := by kernel_rfl
theorem wunit_b : Tryz.f50.body.isNone = false := by kernel_rfl
theorem wunit_hO : OracleOk E wunit_O := orac_ok .nil .nil .nil .nil
theorem wunit_ok_of (h : ∀ (x0 : Int), wunit_t (Gr E Tryz.f50 [⟨.complex, q4 x0⟩]) x0 = some [⟨.complex, q4 x0⟩]) : FnOk E wunit_id wunit_W := fn1_ok wunit_hO mix wunit_f wunit_n wunit_b (fun x0 _ => (wunit_e _ x0).trans (h x0))
theorem wunit_ok : FnOk E wunit_id wunit_W := wunit_ok_of fun x => by
  simp only [wunit_t, and3]
  rcases m4 x with h | h | h | h <;> simp [q4, h]
def partV (x : Int) : Int := if inR x then x else 0
noncomputable def wpart_W : FnW E := fn12 (E := E) .float .int .bool fltOk partV inR
def wpart_id : FuncId := 51
noncomputable def wpart_O : Oracle E := orac [] [] [] []
noncomputable def wpart_H : Hint E := Hint.mk [] [] [] [] [] 5 []
noncomputable def wpart_t (_G : Nat → ASt E → Option (List (TV E))) (x0 : Int) : Option (List (TV E)) :=
  bif (fltOk x0 && fltOk (-1048576)) then (bif ((fltOk x0 && fltOk 1048576) || !(decide ((-1048576 : Int) ≤ x0))) then (bif (!(bif (decide ((-1048576 : Int) ≤ x0)) then (decide (x0 ≤ (1048576 : Int))) else false)) then some [⟨.int, (0 : Int)⟩, ⟨.bool, false⟩] else (bif (fltOk x0) then (bif (fltOk x0 && fltOk x0) then some [⟨.int, x0⟩, ⟨.bool, (x0 == x0)⟩] else none) else none)) else none) else none
theorem wpart_e (G : Nat → ASt E → Option (List (TV E))) (x0 : Int) : runE wpart_O wpart_H G Tryz.f51 [⟨.float, x0⟩] = wpart_t G x0 := by kernel_rfl
theorem wpart_f : Tryz.prog.funcs[51]? = some Tryz.f51 := by kernel_rfl
theorem wpart_n : (Tryz.f51.name == "runtime.NumGoroutine") = false := by kernel_rfl
theorem wpart_b : Tryz.f51.body.isNone = false := by kernel_rfl
theorem wpart_hO : OracleOk E wpart_O := orac_ok .nil .nil .nil .nil
theorem wpart_ok_of (h : ∀ (x0 : Int), fltOk x0 = true → wpart_t (Gr E Tryz.f51 [⟨.int, partV x0⟩, ⟨.bool, inR x0⟩]) x0 = some [⟨.int, partV x0⟩, ⟨.bool, inR x0⟩]) : FnOk E wpart_id wpart_W := fn12_ok wpart_hO mix wpart_f wpart_n wpart_b (fun x0 hk => (wpart_e _ x0).trans (h x0 hk))
theorem wpart_ok : FnOk E wpart_id wpart_W := wpart_ok_of fun x hk => by
  have e1 : fltOk (-1048576) = true := by decide
  have e2 : fltOk 1048576 = true := by decide
  simp only [wpart_t, hk, e1, e2, Bool.and_true, Bool.true_or, cond_true, partV, inR, beq_self_eq_true]
  by_cases h1 : -1048576 ≤ x <;> by_cases h2 : x ≤ 1048576 <;> simp [h1, h2]
def powerV (z : C) : Int := if inC z then z.1 * z.1 + z.2 * z.2 else -1
noncomputable def wpower_W : FnW E := fn1 (E := E) .complex .int okC powerV
def wpower_id : FuncId := 28
noncomputable def wpower_O : Oracle E := orac [(51, wpart_W)] [] [] []
noncomputable def wpower_H : Hint E := Hint.mk [] [] [] [] [] 5 []
noncomputable def wpower_t (_G : Nat → ASt E → Option (List (TV E))) (x0 : Int × Int) : Option (List (TV E)) :=
  bif (fltOk x0.1) then (bif (fltOk x0.2) then (bif (bif (!(inR x0.1)) then true else (!(inR x0.2))) then some [⟨.int, (-1 : Int)⟩] else some [⟨.int, (w64 ((w64 ((partV x0.1) * (partV x0.1))) + (w64 ((partV x0.2) * (partV x0.2)))))⟩]) else none) else none
theorem wpower_e (G : Nat → ASt E → Option (List (TV E))) (x0 : Int × Int) : runE wpower_O wpower_H G Tryz.f28 [⟨.complex, x0⟩] = wpower_t G x0 := by kernel_rfl
theorem wpower_f : Tryz.prog.funcs[28]? = some Tryz.f28 := by kernel_rfl
theorem wpower_n : (Tryz.f28.name == "runtime.NumGoroutine") = false := by kernel_rfl
theorem wpower_b : Tryz.f28.body.isNone = false := by kernel_rfl
theorem wpower_hO : OracleOk E wpower_O := orac_ok (.cons wpart_ok .nil) .nil .nil .nil
theorem wpower_ok_of (h : ∀ (x0 : Int × Int), okC x0 = true → wpower_t (Gr E Tryz.f28 [⟨.int, powerV x0⟩]) x0 = some [⟨.int, powerV x0⟩]) : FnOk E wpower_id wpower_W := fn1_ok wpower_hO mix wpower_f wpower_n wpower_b (fun x0 hk => (wpower_e _ x0).trans (h x0 hk))
theorem wpower_ok : FnOk E wpower_id wpower_W := wpower_ok_of fun z hk => by
  simp only [okC, Bool.and_eq_true] at hk
  obtain ⟨h1, h2⟩ := hk
  simp only [wpower_t, h1, h2, cond_true, powerV, inC, partV]
  by_cases i1 : inR z.1 = true
  · by_cases i2 : inR z.2 = true
    · rw [inR_iff] at i1 i2
      have b1 := sq_bd z.1 i1.1 i1.2
      have b2 := sq_bd z.2 i2.1 i2.2
      simp only [inR_iff.2 i1, inR_iff.2 i2, if_pos, Bool.not_true, cond_false, Bool.and_self]
      rw [w64_id (n := z.1 * z.1) (by omega) (by omega), w64_id (n := z.2 * z.2) (by omega) (by omega), w64_id (by omega) (by omega)]
    · simp [i1, i2]
  · simp [i1]
def last (h : List Bool) : List Bool := h.drop (h.length - 256)
theorem last_len (h : List Bool) : (last h).length ≤ 256 := by simp [last]; omega
theorem last_id {h : List Bool} (hl : h.length ≤ 256) : last h = h := by simp [last, Nat.sub_eq_zero_of_le hl]
def small (h : List Bool) : Bool := decide (h.length ≤ 1000000)
noncomputable def wlast_W : FnW E := fn1 (E := E) .l_bool .l_bool small last
def wlast_id : FuncId := 27
noncomputable def wlast_O : Oracle E := orac [] [] [] []
noncomputable def wlast_H : Hint E := Hint.mk [] [] [] [] [] 5 []
noncomputable def wlast_t (_G : Nat → ASt E → Option (List (TV E))) (x0 : List Bool) : Option (List (TV E)) :=
  bif (decide ((0 : Int) ≤ (bif decide ((w64 ((x0.length : Int) - (256 : Int))) < (0 : Int)) then (0 : Int) else (w64 ((x0.length : Int) - (256 : Int))))) && decide ((bif decide ((w64 ((x0.length : Int) - (256 : Int))) < (0 : Int)) then (0 : Int) else (w64 ((x0.length : Int) - (256 : Int)))) ≤ (x0.length : Int)) && decide ((x0.length : Int) ≤ (x0.length : Int))) then some [⟨.l_bool, (List.take (Int.toNat (x0.length : Int) - Int.toNat (bif decide ((w64 ((x0.length : Int) - (256 : Int))) < (0 : Int)) then (0 : Int) else (w64 ((x0.length : Int) - (256 : Int))))) (List.drop (Int.toNat (bif decide ((w64 ((x0.length : Int) - (256 : Int))) < (0 : Int)) then (0 : Int) else (w64 ((x0.length : Int) - (256 : Int))))) x0))⟩] else none
theorem wlast_e (G : Nat → ASt E → Option (List (TV E))) (x0 : List Bool) : runE wlast_O wlast_H G Tryz.f27 [⟨.l_bool, x0⟩] = wlast_t G x0 := by kernel_rfl
theorem wlast_f : Tryz.prog.funcs[27]? = some Tryz.f27 := by kernel_rfl
theorem wlast_n : (Tryz.f27.name == "runtime.NumGoroutine") = false := by kernel_rfl
theorem wlast_b : Tryz.f27.body.isNone = false := by kernel_rfl
theorem wlast_hO : OracleOk E wlast_O := orac_ok .nil .nil .nil .nil
theorem wlast_ok_of (h : ∀ (x0 : List Bool), small x0 = true → wlast_t (Gr E Tryz.f27 [⟨.l_bool, last x0⟩]) x0 = some [⟨.l_bool, last x0⟩]) : FnOk E wlast_id wlast_W := fn1_ok wlast_hO mix wlast_f wlast_n wlast_b (fun x0 hk => (wlast_e _ x0).trans (h x0 hk))
theorem take_all {h : List Bool} {k : Nat} (_ : k ≤ h.length) : List.take (h.length - k) (List.drop k h) = List.drop k h := List.take_of_length_le (by simp)
theorem wlast_ok : FnOk E wlast_id wlast_W := wlast_ok_of fun h hk => by
  simp only [small, decide_eq_true_eq] at hk
  have e : (bif decide (w64 ((h.length : Int) - 256) < 0) then 0 else w64 ((h.length : Int) - 256)) = ((h.length - 256 : Nat) : Int) := by
    rw [w64_id (by omega) (by omega)]
    by_cases hc : (h.length : Int) - 256 < 0 <;> simp only [hc, decide_true, decide_false, cond_true, cond_false] <;> omega
  simp only [wlast_t, e, Int.toNat_natCast, last, take_all (Nat.sub_le h.length 256)]
  rw [show (decide ((0 : Int) ≤ ((h.length - 256 : Nat) : Int)) && decide (((h.length - 256 : Nat) : Int) ≤ (h.length : Int)) && decide ((h.length : Int) ≤ (h.length : Int))) = true from by simp only [Bool.and_eq_true, decide_eq_true_eq]; omega, cond_true]
noncomputable def rlast_W : FnW E := fn1 (E := E) .l_bool .l_bool small last
def rlast_id : FuncId := 29
noncomputable def rlast_O : Oracle E := orac [] [] [] []
noncomputable def rlast_H : Hint E := Hint.mk [] [] [] [] [] 5 []
noncomputable def rlast_t (_G : Nat → ASt E → Option (List (TV E))) (x0 : List Bool) : Option (List (TV E)) :=
  bif (decide ((256 : Int) < (x0.length : Int))) then (bif (decide ((0 : Int) ≤ (w64 ((x0.length : Int) - (256 : Int)))) && decide ((w64 ((x0.length : Int) - (256 : Int))) ≤ (x0.length : Int)) && decide ((x0.length : Int) ≤ (x0.length : Int))) then some [⟨.l_bool, (List.take (Int.toNat (x0.length : Int) - Int.toNat (w64 ((x0.length : Int) - (256 : Int)))) (List.drop (Int.toNat (w64 ((x0.length : Int) - (256 : Int)))) x0))⟩] else none) else some [⟨.l_bool, x0⟩]
theorem rlast_e (G : Nat → ASt E → Option (List (TV E))) (x0 : List Bool) : runE rlast_O rlast_H G Tryz.f29 [⟨.l_bool, x0⟩] = rlast_t G x0 := by kernel_rfl
theorem rlast_f : Tryz.prog.funcs[29]? = some Tryz.f29 := by kernel_rfl
theorem rlast_n : (Tryz.f29.name == "runtime.NumGoroutine") = false := by kernel_rfl
theorem rlast_b : Tryz.f29.body.isNone = false := by kernel_rfl
theorem rlast_hO : OracleOk E rlast_O := orac_ok .nil .nil .nil .nil
theorem rlast_ok_of (h : ∀ (x0 : List Bool), small x0 = true → rlast_t (Gr E Tryz.f29 [⟨.l_bool, last x0⟩]) x0 = some [⟨.l_bool, last x0⟩]) : FnOk E rlast_id rlast_W := fn1_ok rlast_hO mix rlast_f rlast_n rlast_b (fun x0 hk => (rlast_e _ x0).trans (h x0 hk))
theorem rlast_ok : FnOk E rlast_id rlast_W := rlast_ok_of fun h hk => by
  simp only [small, decide_eq_true_eq] at hk
  simp only [rlast_t, w64_id (n := (h.length : Int) - 256) (by omega) (by omega)]
  by_cases hc : 256 < h.length
  · have e : (h.length : Int) - 256 = ((h.length - 256 : Nat) : Int) := by omega
    rw [e]
    simp only [Int.toNat_natCast, take_all (Nat.sub_le h.length 256)]
    rw [show decide ((256 : Int) < (h.length : Int)) = true from by simp only [decide_eq_true_eq]; omega, cond_true]
    rw [show (decide ((0 : Int) ≤ ((h.length - 256 : Nat) : Int)) && decide (((h.length - 256 : Nat) : Int) ≤ (h.length : Int)) && decide ((h.length : Int) ≤ (h.length : Int))) = true from by simp only [Bool.and_eq_true, decide_eq_true_eq]; omega, cond_true]
    rfl
  · rw [show decide ((256 : Int) < (h.length : Int)) = false from by simp only [decide_eq_false_iff_not]; omega, cond_false]
    rw [last_id (by omega)]
def binA (k : Int) : Nat → C → List Bool → C
  | _, a, [] => a
  | n, a, b :: t => binA k (n + 1) (if b then addC a (q4 (-(k * n))) else a) t
def bin (h : List Bool) (k : Int) : C := binA k 0 (0, 0) (last h)
def bins (h : List Bool) : Arr89 := ⟨bin h 0, bin h 1, bin h 2, bin h 3⟩
theorem negk (k : Int) (i : Nat) (h1 : 0 ≤ k) (h2 : k ≤ 3) (hi : i ≤ 256) : w64 (w64 (0 - k) * (i : Int)) = -(k * i) := by
  have : k = 0 ∨ k = 1 ∨ k = 2 ∨ k = 3 := by omega
  rcases this with rfl | rfl | rfl | rfl <;> rw [w64_id (n := 0 - _) (by decide) (by decide), w64_id (by omega) (by omega)] <;> omega
def bdC (z : C) (n : Int) : Prop := (-n ≤ z.1 ∧ z.1 ≤ n) ∧ -n ≤ z.2 ∧ z.2 ≤ n
theorem bdC_add {z : C} {n m : Int} (h : bdC z n) : bdC (addC z (q4 m)) (n + 1) := by
  have := q4_bd m
  unfold bdC addC at *
  simp only
  omega
theorem bdC_sum {z : C} {n m : Int} (h : bdC z n) (hn : n ≤ 1000) : (sumOk z.1 && sumOk (q4 m).1 && (sumOk z.2 && sumOk (q4 m).2)) = true := by
  have := q4_bd m
  unfold bdC at h
  rw [sumOk_of (by omega) (by omega), sumOk_of (by omega) (by omega), sumOk_of (by omega) (by omega), sumOk_of (by omega) (by omega)]
  rfl
theorem binA_bd (k : Int) : ∀ (l : List Bool) (n : Nat) (a : C) (m : Int), bdC a m → bdC (binA k n a l) (m + l.length)
  | [], n, a, m, h => by simpa [binA] using h
  | b :: t, n, a, m, h => by
    have e : m + ((b :: t).length : Int) = m + 1 + t.length := by simp only [List.length_cons]; omega
    rw [e]
    refine binA_bd k t (n + 1) _ (m + 1) ?_
    cases b
    · unfold bdC at *; simp only [Bool.false_eq_true, if_false]; omega
    · exact bdC_add h
theorem bin_bd (h : List Bool) (k : Int) : bdC (bin h k) 256 := by
  have h1 := binA_bd k (last h) 0 (0, 0) 0 (by unfold bdC; decide)
  have h2 := last_len h
  unfold bdC at *
  unfold bin
  omega
noncomputable def wbins_W : FnW E := fn1 (E := E) .l_bool .a4_complex small bins
def wbins_id : FuncId := 26
noncomputable def wbins_O : Oracle E := orac [(27, wlast_W), (50, wunit_W)] [] [] []
noncomputable def wbins_H : Hint E := Hint.mk [(0, [2, 3, 8, 9, 10]), (1, [2, 3, 4, 8, 9, 10, 17])] [] [] [] [] 5 []
noncomputable def wbins_C0 (v0 : List Bool) (v1 v2 v3 v4 v5 v6 v7 v8 v9 v10 v11 v12 v13 v14 v15 v16 v17 v18 : Int) : ASt E := ASt.mk 33 [(2, .ptr 0 0), (3, .ptr 1 0), (8, .d (.slice .bool v0)), (9, .d (.int .i64 v1)), (10, .d (.int .i64 v2))] [(0, .box [.d (.cpx v3 v4), .d (.cpx v5 v6), .d (.cpx v7 v8), .d (.cpx v9 v10)]), (1, .box [.d (.cpx v11 v12), .d (.cpx v13 v14), .d (.cpx v15 v16), .d (.cpx v17 v18)])] 2
noncomputable def wbins_C1_0 (v0 : Int) (v1 : List Bool) (v2 v3 v4 v5 v6 v7 v8 v9 v10 v11 v12 v13 v14 v15 v16 v17 v18 v19 : Int) : ASt E := ASt.mk 33 [(2, .ptr 0 0), (3, .ptr 1 0), (4, .d (.int .i64 v0)), (8, .d (.slice .bool v1)), (9, .d (.int .i64 v2)), (10, .d (.int .i64 v3)), (17, .d (.int .i64 (0 : Int)))] [(0, .box [.d (.cpx v4 v5), .d (.cpx v6 v7), .d (.cpx v8 v9), .d (.cpx v10 v11)]), (1, .box [.d (.cpx v12 v13), .d (.cpx v14 v15), .d (.cpx v16 v17), .d (.cpx v18 v19)])] 2
noncomputable def wbins_C1_1 (v0 : Int) (v1 : List Bool) (v2 v3 v4 v5 v6 v7 v8 v9 v10 v11 v12 v13 v14 v15 v16 v17 v18 v19 : Int) : ASt E := ASt.mk 33 [(2, .ptr 0 0), (3, .ptr 1 0), (4, .d (.int .i64 v0)), (8, .d (.slice .bool v1)), (9, .d (.int .i64 v2)), (10, .d (.int .i64 v3)), (17, .d (.int .i64 (1 : Int)))] [(0, .box [.d (.cpx v4 v5), .d (.cpx v6 v7), .d (.cpx v8 v9), .d (.cpx v10 v11)]), (1, .box [.d (.cpx v12 v13), .d (.cpx v14 v15), .d (.cpx v16 v17), .d (.cpx v18 v19)])] 2
noncomputable def wbins_C1_2 (v0 : Int) (v1 : List Bool) (v2 v3 v4 v5 v6 v7 v8 v9 v10 v11 v12 v13 v14 v15 v16 v17 v18 v19 : Int) : ASt E := ASt.mk 33 [(2, .ptr 0 0), (3, .ptr 1 0), (4, .d (.int .i64 v0)), (8, .d (.slice .bool v1)), (9, .d (.int .i64 v2)), (10, .d (.int .i64 v3)), (17, .d (.int .i64 (2 : Int)))] [(0, .box [.d (.cpx v4 v5), .d (.cpx v6 v7), .d (.cpx v8 v9), .d (.cpx v10 v11)]), (1, .box [.d (.cpx v12 v13), .d (.cpx v14 v15), .d (.cpx v16 v17), .d (.cpx v18 v19)])] 2
noncomputable def wbins_C1_3 (v0 : Int) (v1 : List Bool) (v2 v3 v4 v5 v6 v7 v8 v9 v10 v11 v12 v13 v14 v15 v16 v17 v18 v19 : Int) : ASt E := ASt.mk 33 [(2, .ptr 0 0), (3, .ptr 1 0), (4, .d (.int .i64 v0)), (8, .d (.slice .bool v1)), (9, .d (.int .i64 v2)), (10, .d (.int .i64 v3)), (17, .d (.int .i64 (3 : Int)))] [(0, .box [.d (.cpx v4 v5), .d (.cpx v6 v7), .d (.cpx v8 v9), .d (.cpx v10 v11)]), (1, .box [.d (.cpx v12 v13), .d (.cpx v14 v15), .d (.cpx v16 v17), .d (.cpx v18 v19)])] 2
noncomputable def wbins_C1_4 (v0 : Int) (v1 : List Bool) (v2 v3 v4 v5 v6 v7 v8 v9 v10 v11 v12 v13 v14 v15 v16 v17 v18 v19 : Int) : ASt E := ASt.mk 33 [(2, .ptr 0 0), (3, .ptr 1 0), (4, .d (.int .i64 v0)), (8, .d (.slice .bool v1)), (9, .d (.int .i64 v2)), (10, .d (.int .i64 v3)), (17, .d (.int .i64 (4 : Int)))] [(0, .box [.d (.cpx v4 v5), .d (.cpx v6 v7), .d (.cpx v8 v9), .d (.cpx v10 v11)]), (1, .box [.d (.cpx v12 v13), .d (.cpx v14 v15), .d (.cpx v16 v17), .d (.cpx v18 v19)])] 2
noncomputable def wbins_t (G : Nat → ASt E → Option (List (TV E))) (x0 : List Bool) : Option (List (TV E)) :=
  bif (small x0) then G 0 (wbins_C0 (last x0) ((last x0).length : Int) 0 0 0 0 0 0 0 0 0 0 0 0 0 0 0 0 0) else none
theorem wbins_e (G : Nat → ASt E → Option (List (TV E))) (x0 : List Bool) : runE wbins_O wbins_H G Tryz.f26 [⟨.l_bool, x0⟩] = wbins_t G x0 := by kernel_rfl
noncomputable def wbins_t0 (G : Nat → ASt E → Option (List (TV E))) (v0 : List Bool) (v1 v2 v3 v4 v5 v6 v7 v8 v9 v10 v11 v12 v13 v14 v15 v16 v17 v18 : Int) : Option (List (TV E)) :=
  bif (decide (v2 < v1)) then (bif (decide ((0 : Int) ≤ v2) && decide (v2 < (v0.length : Int))) then (bif (!(List.getD v0 (Int.toNat v2) (dflt .bool))) then G 0 (wbins_C0 v0 v1 (w64 (v2 + (1 : Int))) v3 v4 v5 v6 v7 v8 v9 v10 v11 v12 v13 v14 v15 v16 v17 v18) else G 1 (wbins_C1_0 v2 v0 v1 v2 v3 v4 v5 v6 v7 v8 v9 v10 v11 v12 v13 v14 v15 v16 v17 v18)) else none) else some [⟨.a4_complex, (⟨((v11, v12) : Int × Int), ((v13, v14) : Int × Int), ((v15, v16) : Int × Int), ((v17, v18) : Int × Int)⟩ : Arr89)⟩]
theorem wbins_l0 (G : Nat → ASt E → Option (List (TV E))) (v0 : List Bool) (v1 v2 v3 v4 v5 v6 v7 v8 v9 v10 v11 v12 v13 v14 v15 v16 v17 v18 : Int) : runL wbins_O wbins_H G Tryz.f26 0 (wbins_C0 v0 v1 v2 v3 v4 v5 v6 v7 v8 v9 v10 v11 v12 v13 v14 v15 v16 v17 v18) = wbins_t0 G v0 v1 v2 v3 v4 v5 v6 v7 v8 v9 v10 v11 v12 v13 v14 v15 v16 v17 v18 := by kernel_rfl
noncomputable def wbins_t1_0 (G : Nat → ASt E → Option (List (TV E))) (v0 : Int) (v1 : List Bool) (v2 v3 v4 v5 v6 v7 v8 v9 v10 v11 v12 v13 v14 v15 v16 v17 v18 v19 : Int) : Option (List (TV E)) :=
  bif (sumOk v12 && sumOk ((q4 (w64 ((w64 (0 - (0 : Int))) * v0))).1) && (sumOk v13 && sumOk ((q4 (w64 ((w64 (0 - (0 : Int))) * v0))).2))) then G 1 (wbins_C1_1 v0 v1 v2 v3 v4 v5 v6 v7 v8 v9 v10 v11 (v12 + (q4 (w64 ((w64 (0 - (0 : Int))) * v0))).1) (v13 + (q4 (w64 ((w64 (0 - (0 : Int))) * v0))).2) v14 v15 v16 v17 v18 v19) else none
theorem wbins_l1_0 (G : Nat → ASt E → Option (List (TV E))) (v0 : Int) (v1 : List Bool) (v2 v3 v4 v5 v6 v7 v8 v9 v10 v11 v12 v13 v14 v15 v16 v17 v18 v19 : Int) : runL wbins_O wbins_H G Tryz.f26 1 (wbins_C1_0 v0 v1 v2 v3 v4 v5 v6 v7 v8 v9 v10 v11 v12 v13 v14 v15 v16 v17 v18 v19) = wbins_t1_0 G v0 v1 v2 v3 v4 v5 v6 v7 v8 v9 v10 v11 v12 v13 v14 v15 v16 v17 v18 v19 := by kernel_rfl
noncomputable def wbins_t1_1 (G : Nat → ASt E → Option (List (TV E))) (v0 : Int) (v1 : List Bool) (v2 v3 v4 v5 v6 v7 v8 v9 v10 v11 v12 v13 v14 v15 v16 v17 v18 v19 : Int) : Option (List (TV E)) :=
  bif (sumOk v14 && sumOk ((q4 (w64 ((w64 (0 - (1 : Int))) * v0))).1) && (sumOk v15 && sumOk ((q4 (w64 ((w64 (0 - (1 : Int))) * v0))).2))) then G 1 (wbins_C1_2 v0 v1 v2 v3 v4 v5 v6 v7 v8 v9 v10 v11 v12 v13 (v14 + (q4 (w64 ((w64 (0 - (1 : Int))) * v0))).1) (v15 + (q4 (w64 ((w64 (0 - (1 : Int))) * v0))).2) v16 v17 v18 v19) else none
theorem wbins_l1_1 (G : Nat → ASt E → Option (List (TV E))) (v0 : Int) (v1 : List Bool) (v2 v3 v4 v5 v6 v7 v8 v9 v10 v11 v12 v13 v14 v15 v16 v17 v18 v19 : Int) : runL wbins_O wbins_H G Tryz.f26 1 (wbins_C1_1 v0 v1 v2 v3 v4 v5 v6 v7 v8 v9 v10 v11 v12 v13 v14 v15 v16 v17 v18 v19) = wbins_t1_1 G v0 v1 v2 v3 v4 v5 v6 v7 v8 v9 v10 v11 v12 v13 v14 v15 v16 v17 v18 v19 := by kernel_rfl
noncomputable def wbins_t1_2 (G : Nat → ASt E → Option (List (TV E))) (v0 : Int) (v1 : List Bool) (v2 v3 v4 v5 v6 v7 v8 v9 v10 v11 v12 v13 v14 v15 v16 v17 v18 v19 : Int) : Option (List (TV E)) :=
  bif (sumOk v16 && sumOk ((q4 (w64 ((w64 (0 - (2 : Int))) * v0))).1) && (sumOk v17 && sumOk ((q4 (w64 ((w64 (0 - (2 : Int))) * v0))).2))) then G 1 (wbins_C1_3 v0 v1 v2 v3 v4 v5 v6 v7 v8 v9 v10 v11 v12 v13 v14 v15 (v16 + (q4 (w64 ((w64 (0 - (2 : Int))) * v0))).1) (v17 + (q4 (w64 ((w64 (0 - (2 : Int))) * v0))).2) v18 v19) else none
theorem wbins_l1_2 (G : Nat → ASt E → Option (List (TV E))) (v0 : Int) (v1 : List Bool) (v2 v3 v4 v5 v6 v7 v8 v9 v10 v11 v12 v13 v14 v15 v16 v17 v18 v19 : Int) : runL wbins_O wbins_H G Tryz.f26 1 (wbins_C1_2 v0 v1 v2 v3 v4 v5 v6 v7 v8 v9 v10 v11 v12 v13 v14 v15 v16 v17 v18 v19) = wbins_t1_2 G v0 v1 v2 v3 v4 v5 v6 v7 v8 v9 v10 v11 v12 v13 v14 v15 v16 v17 v18 v19 := by kernel_rfl
noncomputable def wbins_t1_3 (G : Nat → ASt E → Option (List (TV E))) (v0 : Int) (v1 : List Bool) (v2 v3 v4 v5 v6 v7 v8 v9 v10 v11 v12 v13 v14 v15 v16 v17 v18 v19 : Int) : Option (List (TV E)) :=
  bif (sumOk v18 && sumOk ((q4 (w64 ((w64 (0 - (3 : Int))) * v0))).1) && (sumOk v19 && sumOk ((q4 (w64 ((w64 (0 - (3 : Int))) * v0))).2))) then G 1 (wbins_C1_4 v0 v1 v2 v3 v4 v5 v6 v7 v8 v9 v10 v11 v12 v13 v14 v15 v16 v17 (v18 + (q4 (w64 ((w64 (0 - (3 : Int))) * v0))).1) (v19 + (q4 (w64 ((w64 (0 - (3 : Int))) * v0))).2)) else none
theorem wbins_l1_3 (G : Nat → ASt E → Option (List (TV E))) (v0 : Int) (v1 : List Bool) (v2 v3 v4 v5 v6 v7 v8 v9 v10 v11 v12 v13 v14 v15 v16 v17 v18 v19 : Int) : runL wbins_O wbins_H G Tryz.f26 1 (wbins_C1_3 v0 v1 v2 v3 v4 v5 v6 v7 v8 v9 v10 v11 v12 v13 v14 v15 v16 v17 v18 v19) = wbins_t1_3 G v0 v1 v2 v3 v4 v5 v6 v7 v8 v9 v10 v11 v12 v13 v14 v15 v16 v17 v18 v19 := by kernel_rfl
noncomputable def wbins_t1_4 (G : Nat → ASt E → Option (List (TV E))) (_v0 : Int) (v1 : List Bool) (v2 v3 v4 v5 v6 v7 v8 v9 v10 v11 v12 v13 v14 v15 v16 v17 v18 v19 : Int) : Option (List (TV E)) :=
  G 0 (wbins_C0 v1 v2 (w64 (v3 + (1 : Int))) v4 v5 v6 v7 v8 v9 v10 v11 v12 v13 v14 v15 v16 v17 v18 v19)
theorem wbins_l1_4 (G : Nat → ASt E → Option (List (TV E))) (v0 : Int) (v1 : List Bool) (v2 v3 v4 v5 v6 v7 v8 v9 v10 v11 v12 v13 v14 v15 v16 v17 v18 v19 : Int) : runL wbins_O wbins_H G Tryz.f26 1 (wbins_C1_4 v0 v1 v2 v3 v4 v5 v6 v7 v8 v9 v10 v11 v12 v13 v14 v15 v16 v17 v18 v19) = wbins_t1_4 G v0 v1 v2 v3 v4 v5 v6 v7 v8 v9 v10 v11 v12 v13 v14 v15 v16 v17 v18 v19 := by kernel_rfl
theorem wbins_f : Tryz.prog.funcs[26]? = some Tryz.f26 := by kernel_rfl
theorem wbins_n : (Tryz.f26.name == "runtime.NumGoroutine") = false := by kernel_rfl
theorem wbins_b : Tryz.f26.body.isNone = false := by kernel_rfl
theorem wbins_hO : OracleOk E wbins_O := orac_ok (.cons wlast_ok (.cons wunit_ok .nil)) .nil .nil .nil
theorem wbins_s0 {res : List (TV E)} {v0 : List Bool} {v1 v2 v3 v4 v5 v6 v7 v8 v9 v10 v11 v12 v13 v14 v15 v16 v17 v18 : Int} (h : wbins_t0 (Gr E Tryz.f26 res) v0 v1 v2 v3 v4 v5 v6 v7 v8 v9 v10 v11 v12 v13 v14 v15 v16 v17 v18 = some res) : Ev E Tryz.f26 res 0 (wbins_C0 v0 v1 v2 v3 v4 v5 v6 v7 v8 v9 v10 v11 v12 v13 v14 v15 v16 v17 v18) := Ev.step wbins_hO mix ((wbins_l0 _ v0 v1 v2 v3 v4 v5 v6 v7 v8 v9 v10 v11 v12 v13 v14 v15 v16 v17 v18).trans h)
theorem wbins_s1_0 {res : List (TV E)} {v0 : Int} {v1 : List Bool} {v2 v3 v4 v5 v6 v7 v8 v9 v10 v11 v12 v13 v14 v15 v16 v17 v18 v19 : Int} (h : wbins_t1_0 (Gr E Tryz.f26 res) v0 v1 v2 v3 v4 v5 v6 v7 v8 v9 v10 v11 v12 v13 v14 v15 v16 v17 v18 v19 = some res) : Ev E Tryz.f26 res 1 (wbins_C1_0 v0 v1 v2 v3 v4 v5 v6 v7 v8 v9 v10 v11 v12 v13 v14 v15 v16 v17 v18 v19) := Ev.step wbins_hO mix ((wbins_l1_0 _ v0 v1 v2 v3 v4 v5 v6 v7 v8 v9 v10 v11 v12 v13 v14 v15 v16 v17 v18 v19).trans h)
theorem wbins_s1_1 {res : List (TV E)} {v0 : Int} {v1 : List Bool} {v2 v3 v4 v5 v6 v7 v8 v9 v10 v11 v12 v13 v14 v15 v16 v17 v18 v19 : Int} (h : wbins_t1_1 (Gr E Tryz.f26 res) v0 v1 v2 v3 v4 v5 v6 v7 v8 v9 v10 v11 v12 v13 v14 v15 v16 v17 v18 v19 = some res) : Ev E Tryz.f26 res 1 (wbins_C1_1 v0 v1 v2 v3 v4 v5 v6 v7 v8 v9 v10 v11 v12 v13 v14 v15 v16 v17 v18 v19) := Ev.step wbins_hO mix ((wbins_l1_1 _ v0 v1 v2 v3 v4 v5 v6 v7 v8 v9 v10 v11 v12 v13 v14 v15 v16 v17 v18 v19).trans h)
theorem wbins_s1_2 {res : List (TV E)} {v0 : Int} {v1 : List Bool} {v2 v3 v4 v5 v6 v7 v8 v9 v10 v11 v12 v13 v14 v15 v16 v17 v18 v19 : Int} (h : wbins_t1_2 (Gr E Tryz.f26 res) v0 v1 v2 v3 v4 v5 v6 v7 v8 v9 v10 v11 v12 v13 v14 v15 v16 v17 v18 v19 = some res) : Ev E Tryz.f26 res 1 (wbins_C1_2 v0 v1 v2 v3 v4 v5 v6 v7 v8 v9 v10 v11 v12 v13 v14 v15 v16 v17 v18 v19) := Ev.step wbins_hO mix ((wbins_l1_2 _ v0 v1 v2 v3 v4 v5 v6 v7 v8 v9 v10 v11 v12 v13 v14 v15 v16 v17 v18 v19).trans h)
theorem wbins_s1_3 {res : List (TV E)} {v0 : Int} {v1 : List Bool} {v2 v3 v4 v5 v6 v7 v8 v9 v10 v11 v12 v13 v14 v15 v16 v17 v18 v19 : Int} (h : wbins_t1_3 (Gr E Tryz.f26 res) v0 v1 v2 v3 v4 v5 v6 v7 v8 v9 v10 v11 v12 v13 v14 v15 v16 v17 v18 v19 = some res) : Ev E Tryz.f26 res 1 (wbins_C1_3 v0 v1 v2 v3 v4 v5 v6 v7 v8 v9 v10 v11 v12 v13 v14 v15 v16 v17 v18 v19) := Ev.step wbins_hO mix ((wbins_l1_3 _ v0 v1 v2 v3 v4 v5 v6 v7 v8 v9 v10 v11 v12 v13 v14 v15 v16 v17 v18 v19).trans h)
theorem wbins_s1_4 {res : List (TV E)} {v0 : Int} {v1 : List Bool} {v2 v3 v4 v5 v6 v7 v8 v9 v10 v11 v12 v13 v14 v15 v16 v17 v18 v19 : Int} (h : wbins_t1_4 (Gr E Tryz.f26 res) v0 v1 v2 v3 v4 v5 v6 v7 v8 v9 v10 v11 v12 v13 v14 v15 v16 v17 v18 v19 = some res) : Ev E Tryz.f26 res 1 (wbins_C1_4 v0 v1 v2 v3 v4 v5 v6 v7 v8 v9 v10 v11 v12 v13 v14 v15 v16 v17 v18 v19) := Ev.step wbins_hO mix ((wbins_l1_4 _ v0 v1 v2 v3 v4 v5 v6 v7 v8 v9 v10 v11 v12 v13 v14 v15 v16 v17 v18 v19).trans h)
theorem wbins_ok_of (h : ∀ (x0 : List Bool), small x0 = true → wbins_t (Gr E Tryz.f26 [⟨.a4_complex, bins x0⟩]) x0 = some [⟨.a4_complex, bins x0⟩]) : FnOk E wbins_id wbins_W := fn1_ok wbins_hO mix wbins_f wbins_n wbins_b (fun x0 hk => (wbins_e _ x0).trans (h x0 hk))
theorem wbins_loop (l : List Bool) (hl : l.length ≤ 256) (u1 u2 u3 u4 u5 u6 u7 u8 : Int) : ∀ (m i : Nat) (a b c d : C), l.length - i = m → i ≤ l.length → bdC a i → bdC b i → bdC c i → bdC d i →
    Ev E Tryz.f26 [⟨.a4_complex, ⟨binA 0 i a (l.drop i), binA 1 i b (l.drop i), binA 2 i c (l.drop i), binA 3 i d (l.drop i)⟩⟩] 0 (wbins_C0 l l.length i u1 u2 u3 u4 u5 u6 u7 u8 a.1 a.2 b.1 b.2 c.1 c.2 d.1 d.2) := by
  intro m
  induction m with
  | zero =>
    intro i a b c d h1 h2 _ _ _ _
    refine wbins_s0 ?_
    have e : l.drop i = [] := List.drop_eq_nil_of_le (by omega)
    simp only [wbins_t0, Bool.cond_eq_ite, decide_eq_true_eq]
    rw [if_neg (by omega), e]
    rfl
  | succ m ih =>
    intro i a b c d h1 h2 k1 k2 k3 k4
    have hi : i < l.length := by omega
    have hg : List.getD l (Int.toNat (i : Int)) (dflt .bool) = l[i] := by rw [Int.toNat_natCast, List.getD, List.getElem?_eq_getElem hi]; rfl
    refine wbins_s0 ?_
    simp only [wbins_t0, hg]
    rw [show decide ((i : Int) < (l.length : Int)) = true from by simp only [decide_eq_true_eq]; omega, show decide ((0 : Int) ≤ (i : Int)) = true from by simp only [decide_eq_true_eq]; omega]
    simp only [Bool.and_self, cond_true]
    rw [← List.getElem_cons_drop hi]
    simp only [binA]
    cases hb : l[i] with
    | false =>
      simp only [Bool.not_false, cond_true, Bool.false_eq_true, if_false]
      rw [w64_id (by omega) (by omega)]
      unfold bdC at k1 k2 k3 k4
      exact Gr_of (ih (i + 1) a b c d (by omega) (by omega) (by unfold bdC; omega) (by unfold bdC; omega) (by unfold bdC; omega) (by unfold bdC; omega))
    | true =>
      simp only [Bool.not_true, cond_false, if_true]
      refine Gr_of (wbins_s1_0 ?_)
      simp only [wbins_t1_0, negk 0 i (by decide) (by decide) (by omega), bdC_sum k1 (by omega), cond_true]
      refine Gr_of (wbins_s1_1 ?_)
      simp only [wbins_t1_1, negk 1 i (by decide) (by decide) (by omega), bdC_sum k2 (by omega), cond_true]
      refine Gr_of (wbins_s1_2 ?_)
      simp only [wbins_t1_2, negk 2 i (by decide) (by decide) (by omega), bdC_sum k3 (by omega), cond_true]
      refine Gr_of (wbins_s1_3 ?_)
      simp only [wbins_t1_3, negk 3 i (by decide) (by decide) (by omega), bdC_sum k4 (by omega), cond_true]
      refine Gr_of (wbins_s1_4 ?_)
      simp only [wbins_t1_4]
      rw [w64_id (by omega) (by omega)]
      exact Gr_of (ih (i + 1) (addC a (q4 (-(0 * i)))) (addC b (q4 (-(1 * i)))) (addC c (q4 (-(2 * i)))) (addC d (q4 (-(3 * i)))) (by omega) (by omega) (bdC_add k1) (bdC_add k2) (bdC_add k3) (bdC_add k4))
theorem bd0 : bdC (0, 0) ((0 : Nat) : Int) := by unfold bdC; decide
theorem wbins_ok : FnOk E wbins_id wbins_W := wbins_ok_of fun h hk => by
  simp only [wbins_t, hk, cond_true]
  have := wbins_loop (last h) (last_len h) 0 0 0 0 0 0 0 0 _ 0 (0, 0) (0, 0) (0, 0) (0, 0) rfl (Nat.zero_le _) bd0 bd0 bd0 bd0
  rw [List.drop_zero] at this
  exact Gr_of this
def beat (h : List Bool) : Int :=
  if (last h).length < 8 then 0 else if ((last h).length : Int) * (last h).length ≤ 8 * powerV (bin h 2) then 2 else if ((last h).length : Int) * (last h).length ≤ 16 * powerV (bin h 1) then 4 else 0
theorem powerV_bd (h : List Bool) (k : Int) : powerV (bin h k) = (bin h k).1 * (bin h k).1 + (bin h k).2 * (bin h k).2 ∧ 0 ≤ powerV (bin h k) ∧ powerV (bin h k) ≤ 10000000000000 := by
  have hb := bin_bd h k
  unfold bdC at hb
  have e : powerV (bin h k) = (bin h k).1 * (bin h k).1 + (bin h k).2 * (bin h k).2 := by unfold powerV; rw [if_pos (inC_iff.2 (by omega))]
  have s1 := sq_bd (bin h k).1 (by omega) (by omega)
  have s2 := sq_bd (bin h k).2 (by omega) (by omega)
  refine ⟨e, ?_, ?_⟩ <;> omega
theorem okC_bin (h : List Bool) (k : Int) : okC (bin h k) = true := by
  have hb := bin_bd h k
  unfold bdC at hb
  unfold okC
  rw [fltOk_of (by omega) (by omega), fltOk_of (by omega) (by omega)]
  rfl
theorem len2 (h : List Bool) : 0 ≤ ((last h).length : Int) * (last h).length ∧ ((last h).length : Int) * (last h).length ≤ 1099511627776 := by
  have := last_len h
  exact sq_bd _ (by omega) (by omega)
theorem beat_tree (n : Nat) (L P2 P1 : Int) (hL : 0 ≤ L ∧ L ≤ 1099511627776) (h2 : 0 ≤ P2 ∧ P2 ≤ 10000000000000) (h1 : 0 ≤ P1 ∧ P1 ≤ 10000000000000) :
    (if (n : Int) < 8 then some [⟨.int, (0 : Int)⟩] else if w64 L ≤ w64 (8 * P2) then some [⟨.int, (2 : Int)⟩] else if w64 L ≤ w64 (16 * P1) then some [⟨.int, (4 : Int)⟩] else some [⟨.int, (0 : Int)⟩] : Option (List (TV E))) =
      some [⟨.int, (if n < 8 then 0 else if L ≤ 8 * P2 then 2 else if L ≤ 16 * P1 then 4 else 0 : Int)⟩] := by
  rw [w64_id (n := L) (by omega) (by omega), w64_id (n := 8 * P2) (by omega) (by omega), w64_id (n := 16 * P1) (by omega) (by omega)]
  by_cases c1 : n < 8
  · rw [if_pos (by omega), if_pos c1]
  · rw [if_neg (by omega), if_neg c1]
    split
    · rfl
    · split <;> rfl
noncomputable def wbeat_W : FnW E := fn1 (E := E) .l_bool .int small beat
def wbeat_id : FuncId := 15
noncomputable def wbeat_O : Oracle E := orac [(26, wbins_W), (28, wpower_W), (27, wlast_W)] [] [] []
noncomputable def wbeat_H : Hint E := Hint.mk [] [] [] [] [] 5 []
noncomputable def wbeat_t (_G : Nat → ASt E → Option (List (TV E))) (x0 : List Bool) : Option (List (TV E)) :=
  bif (small x0) then (bif (small x0) then (bif (decide (((last x0).length : Int) < (8 : Int))) then some [⟨.int, (0 : Int)⟩] else (bif (okC ((bins x0).e2)) then (bif (decide ((w64 (((last x0).length : Int) * ((last x0).length : Int))) ≤ (w64 ((8 : Int) * (powerV ((bins x0).e2)))))) then some [⟨.int, (2 : Int)⟩] else (bif (okC ((bins x0).e1)) then (bif (decide ((w64 (((last x0).length : Int) * ((last x0).length : Int))) ≤ (w64 ((16 : Int) * (powerV ((bins x0).e1)))))) then some [⟨.int, (4 : Int)⟩] else some [⟨.int, (0 : Int)⟩]) else none)) else none)) else none) else none
theorem wbeat_e (G : Nat → ASt E → Option (List (TV E))) (x0 : List Bool) : runE wbeat_O wbeat_H G Tryz.f15 [⟨.l_bool, x0⟩] = wbeat_t G x0 := by kernel_rfl
theorem wbeat_f : Tryz.prog.funcs[15]? = some Tryz.f15 := by kernel_rfl
theorem wbeat_n : (Tryz.f15.name == "runtime.NumGoroutine") = false := by kernel_rfl
theorem wbeat_b : Tryz.f15.body.isNone = false := by kernel_rfl
theorem wbeat_hO : OracleOk E wbeat_O := orac_ok (.cons wbins_ok (.cons wpower_ok (.cons wlast_ok .nil))) .nil .nil .nil
theorem wbeat_ok_of (h : ∀ (x0 : List Bool), small x0 = true → wbeat_t (Gr E Tryz.f15 [⟨.int, beat x0⟩]) x0 = some [⟨.int, beat x0⟩]) : FnOk E wbeat_id wbeat_W := fn1_ok wbeat_hO mix wbeat_f wbeat_n wbeat_b (fun x0 hk => (wbeat_e _ x0).trans (h x0 hk))
theorem wbeat_ok : FnOk E wbeat_id wbeat_W := wbeat_ok_of fun h hk => by
  have p2 := powerV_bd h 2
  have p1 := powerV_bd h 1
  have hl := len2 h
  have e1 : (bins h).e1 = bin h 1 := by simp only [bins]
  have e2 : (bins h).e2 = bin h 2 := by simp only [bins]
  unfold wbeat_t
  rw [e1, e2]
  simp only [hk, okC_bin, beat, Bool.cond_eq_ite, ↓reduceIte]
  simp only [decide_eq_true_eq]
  exact beat_tree (last h).length _ _ _ hl p2.2 p1.2
def pt (z : C) : Point := ⟨z.1, z.2⟩
def rturnedV (n : Int) : Point := pt (q4 n)
noncomputable def rturned_W : FnW E := fn1 (E := E) .int .ref29_Point (fun _ => true) rturnedV
def rturned_id : FuncId := 52
noncomputable def rturned_O : Oracle E := orac [] [] [] []
noncomputable def rturned_H : Hint E := Hint.mk [] [] [] [] [] 5 []
noncomputable def rturned_t (_G : Nat → ASt E → Option (List (TV E))) (x0 : Int) : Option (List (TV E)) :=
  bif (!((4 : Int) == (0 : Int))) then (bif (decide ((Int.tmod x0 (4 : Int)) < (0 : Int))) then (bif ((w64 ((Int.tmod x0 (4 : Int)) + (4 : Int))) == (0 : Int)) then some [⟨.ref29_Point, (⟨1, 0⟩ : Point)⟩] else (bif ((w64 ((Int.tmod x0 (4 : Int)) + (4 : Int))) == (1 : Int)) then some [⟨.ref29_Point, (⟨0, 1⟩ : Point)⟩] else (bif ((w64 ((Int.tmod x0 (4 : Int)) + (4 : Int))) == (2 : Int)) then some [⟨.ref29_Point, (⟨(-1), 0⟩ : Point)⟩] else some [⟨.ref29_Point, (⟨0, (-1)⟩ : Point)⟩]))) else (bif ((Int.tmod x0 (4 : Int)) == (0 : Int)) then some [⟨.ref29_Point, (⟨1, 0⟩ : Point)⟩] else (bif ((Int.tmod x0 (4 : Int)) == (1 : Int)) then some [⟨.ref29_Point, (⟨0, 1⟩ : Point)⟩] else (bif ((Int.tmod x0 (4 : Int)) == (2 : Int)) then some [⟨.ref29_Point, (⟨(-1), 0⟩ : Point)⟩] else some [⟨.ref29_Point, (⟨0, (-1)⟩ : Point)⟩])))) else none
theorem rturned_e (G : Nat → ASt E → Option (List (TV E))) (x0 : Int) : runE rturned_O rturned_H G Tryz.f52 [⟨.int, x0⟩] = rturned_t G x0 := by kernel_rfl
theorem rturned_f : Tryz.prog.funcs[52]? = some Tryz.f52 := by kernel_rfl
theorem rturned_n : (Tryz.f52.name == "runtime.NumGoroutine") = false := by kernel_rfl
theorem rturned_b : Tryz.f52.body.isNone = false := by kernel_rfl
theorem rturned_hO : OracleOk E rturned_O := orac_ok .nil .nil .nil .nil
theorem rturned_ok_of (h : ∀ (x0 : Int), rturned_t (Gr E Tryz.f52 [⟨.ref29_Point, rturnedV x0⟩]) x0 = some [⟨.ref29_Point, rturnedV x0⟩]) : FnOk E rturned_id rturned_W := fn1_ok rturned_hO mix rturned_f rturned_n rturned_b (fun x0 _ => (rturned_e _ x0).trans (h x0))
theorem rturned_ok : FnOk E rturned_id rturned_W := rturned_ok_of fun n => by
  rcases tmod4 n with ⟨h, h4⟩ | ⟨h, h4⟩ | ⟨h, h4⟩ | ⟨h, h4⟩ | ⟨h, h4⟩ | ⟨h, h4⟩ | ⟨h, h4⟩ <;>
  · simp only [rturned_t, h, rturnedV, q4, h4]
    rfl
def okP (p : Point) : Bool := inR p.re && inR p.im
def powerP (p : Point) : Int := p.re * p.re + p.im * p.im
noncomputable def rpower_W : FnW E := fn1 (E := E) .ref29_Point .int okP powerP
def rpower_id : FuncId := 30
noncomputable def rpower_O : Oracle E := orac [] [] [] []
noncomputable def rpower_H : Hint E := Hint.mk [] [] [] [] [] 5 []
noncomputable def rpower_t (_G : Nat → ASt E → Option (List (TV E))) (x0 : Point) : Option (List (TV E)) :=
  some [⟨.int, (w64 ((w64 (x0.re * x0.re)) + (w64 (x0.im * x0.im))))⟩]
theorem rpower_e (G : Nat → ASt E → Option (List (TV E))) (x0 : Point) : runE rpower_O rpower_H G Tryz.f30 [⟨.ref29_Point, x0⟩] = rpower_t G x0 := by kernel_rfl
theorem rpower_f : Tryz.prog.funcs[30]? = some Tryz.f30 := by kernel_rfl
theorem rpower_n : (Tryz.f30.name == "runtime.NumGoroutine") = false := by kernel_rfl
theorem rpower_b : Tryz.f30.body.isNone = false := by kernel_rfl
theorem rpower_hO : OracleOk E rpower_O := orac_ok .nil .nil .nil .nil
theorem rpower_ok_of (h : ∀ (x0 : Point), okP x0 = true → rpower_t (Gr E Tryz.f30 [⟨.int, powerP x0⟩]) x0 = some [⟨.int, powerP x0⟩]) : FnOk E rpower_id rpower_W := fn1_ok rpower_hO mix rpower_f rpower_n rpower_b (fun x0 hk => (rpower_e _ x0).trans (h x0 hk))
theorem rpower_ok : FnOk E rpower_id rpower_W := rpower_ok_of fun p hk => by
  simp only [okP, Bool.and_eq_true, inR_iff] at hk
  have m1 := sq_bd p.re hk.1.1 hk.1.2
  have m2 := sq_bd p.im hk.2.1 hk.2.2
  simp only [rpower_t, powerP]
  rw [w64_id (n := p.re * p.re) (by omega) (by omega), w64_id (n := p.im * p.im) (by omega) (by omega), w64_id (by omega) (by omega)]
def binP (h : List Bool) (k : Int) : Point := pt (bin h k)
def okBin (h : List Bool) (k : Int) : Bool := small h && (decide (0 ≤ k) && decide (k ≤ 3))
noncomputable def rbin_W : FnW E := fn2 (E := E) .l_bool .int .ref29_Point okBin binP
def rbin_id : FuncId := 31
noncomputable def rbin_O : Oracle E := orac [(29, rlast_W), (52, rturned_W)] [] [] []
noncomputable def rbin_H : Hint E := Hint.mk [(0, [0, 1, 4, 5, 6])] [] [] [] [] 5 []
noncomputable def rbin_C0 (v0 : List Bool) (v1 v2 v3 v4 v5 v6 : Int) : ASt E := ASt.mk 39 [(0, .d (.slice .bool v0)), (1, .d (.int .i64 v1)), (4, .ptr 0 0), (5, .ptr 1 0), (6, .d (.int .i64 v2))] [(0, .box [.d (.int .i64 v3), .d (.int .i64 v4)]), (1, .box [.d (.int .i64 v5), .d (.int .i64 v6)])] 2
noncomputable def rbin_t (G : Nat → ASt E → Option (List (TV E))) (x0 : List Bool) (x1 : Int) : Option (List (TV E)) :=
  bif (small x0) then G 0 (rbin_C0 (last x0) x1 0 0 0 0 0) else none
theorem rbin_e (G : Nat → ASt E → Option (List (TV E))) (x0 : List Bool) (x1 : Int) : runE rbin_O rbin_H G Tryz.f31 [⟨.l_bool, x0⟩, ⟨.int, x1⟩] = rbin_t G x0 x1 := by kernel_rfl
noncomputable def rbin_t0 (G : Nat → ASt E → Option (List (TV E))) (v0 : List Bool) (v1 v2 v3 v4 v5 v6 : Int) : Option (List (TV E)) :=
  bif (decide (v2 < (v0.length : Int))) then (bif (decide ((0 : Int) ≤ v2) && decide (v2 < (v0.length : Int))) then (bif (List.getD v0 (Int.toNat v2) (dflt .bool)) then G 0 (rbin_C0 v0 v1 (w64 (v2 + (1 : Int))) v3 v4 (w64 (v5 + (rturnedV (w64 ((0 : Int) - (w64 (v1 * v2))))).re)) (w64 (v6 + (rturnedV (w64 ((0 : Int) - (w64 (v1 * v2))))).im))) else G 0 (rbin_C0 v0 v1 (w64 (v2 + (1 : Int))) v3 v4 v5 v6)) else none) else some [⟨.ref29_Point, (⟨v5, v6⟩ : Point)⟩]
theorem rbin_l0 (G : Nat → ASt E → Option (List (TV E))) (v0 : List Bool) (v1 v2 v3 v4 v5 v6 : Int) : runL rbin_O rbin_H G Tryz.f31 0 (rbin_C0 v0 v1 v2 v3 v4 v5 v6) = rbin_t0 G v0 v1 v2 v3 v4 v5 v6 := by kernel_rfl
theorem rbin_f : Tryz.prog.funcs[31]? = some Tryz.f31 := by kernel_rfl
theorem rbin_n : (Tryz.f31.name == "runtime.NumGoroutine") = false := by kernel_rfl
theorem rbin_b : Tryz.f31.body.isNone = false := by kernel_rfl
theorem rbin_hO : OracleOk E rbin_O := orac_ok (.cons rlast_ok (.cons rturned_ok .nil)) .nil .nil .nil
theorem rbin_s0 {res : List (TV E)} {v0 : List Bool} {v1 v2 v3 v4 v5 v6 : Int} (h : rbin_t0 (Gr E Tryz.f31 res) v0 v1 v2 v3 v4 v5 v6 = some res) : Ev E Tryz.f31 res 0 (rbin_C0 v0 v1 v2 v3 v4 v5 v6) := Ev.step rbin_hO mix ((rbin_l0 _ v0 v1 v2 v3 v4 v5 v6).trans h)
theorem rbin_ok_of (h : ∀ (x0 : List Bool) (x1 : Int), okBin x0 x1 = true → rbin_t (Gr E Tryz.f31 [⟨.ref29_Point, binP x0 x1⟩]) x0 x1 = some [⟨.ref29_Point, binP x0 x1⟩]) : FnOk E rbin_id rbin_W := fn2_ok rbin_hO mix rbin_f rbin_n rbin_b (fun x0 x1 hk => (rbin_e _ x0 x1).trans (h x0 x1 hk))
theorem rneg (k : Int) (i : Nat) (h1 : 0 ≤ k) (h2 : k ≤ 3) (hi : i ≤ 256) : w64 (0 - w64 (k * (i : Int))) = -(k * i) := by
  have : k = 0 ∨ k = 1 ∨ k = 2 ∨ k = 3 := by omega
  rcases this with rfl | rfl | rfl | rfl <;> rw [w64_id (n := _ * (i : Int)) (by omega) (by omega), w64_id (by omega) (by omega)] <;> omega
theorem rbin_loop (l : List Bool) (hl : l.length ≤ 256) (k : Int) (hk1 : 0 ≤ k) (hk2 : k ≤ 3) (u1 u2 : Int) : ∀ (m i : Nat) (a : C), l.length - i = m → i ≤ l.length → bdC a i →
    Ev E Tryz.f31 [⟨.ref29_Point, pt (binA k i a (l.drop i))⟩] 0 (rbin_C0 l k i u1 u2 a.1 a.2) := by
  intro m
  induction m with
  | zero =>
    intro i a h1 h2 _
    refine rbin_s0 ?_
    have e : l.drop i = [] := List.drop_eq_nil_of_le (by omega)
    simp only [rbin_t0, Bool.cond_eq_ite, decide_eq_true_eq]
    rw [if_neg (by omega), e]
    rfl
  | succ m ih =>
    intro i a h1 h2 hb
    have hi : i < l.length := by omega
    have hg : List.getD l (Int.toNat (i : Int)) (dflt .bool) = l[i] := by rw [Int.toNat_natCast, List.getD, List.getElem?_eq_getElem hi]; rfl
    refine rbin_s0 ?_
    have hq := q4_bd (-(k * (i : Int)))
    have hbb := hb
    unfold bdC at hbb
    simp only [rbin_t0, hg, rneg k i hk1 hk2 (by omega)]
    rw [show decide ((i : Int) < (l.length : Int)) = true from by simp only [decide_eq_true_eq]; omega, show decide ((0 : Int) ≤ (i : Int)) = true from by simp only [decide_eq_true_eq]; omega]
    simp only [Bool.and_self, cond_true]
    rw [← List.getElem_cons_drop hi, w64_id (n := (i : Int) + 1) (by omega) (by omega)]
    simp only [binA]
    cases hbt : l[i] with
    | false =>
      simp only [cond_false, Bool.false_eq_true, if_false]
      exact Gr_of (ih (i + 1) a (by omega) (by omega) (by unfold bdC; omega))
    | true =>
      simp only [cond_true, if_true, rturnedV, pt]
      rw [w64_id (by omega) (by omega), w64_id (by omega) (by omega)]
      exact Gr_of (ih (i + 1) (addC a (q4 (-(k * i)))) (by omega) (by omega) (bdC_add hb))
theorem rbin_ok : FnOk E rbin_id rbin_W := rbin_ok_of fun h k hk => by
  simp only [okBin, Bool.and_eq_true, decide_eq_true_eq] at hk
  simp only [rbin_t, hk.1, cond_true]
  have := rbin_loop (last h) (last_len h) k hk.2.1 hk.2.2 0 0 _ 0 (0, 0) rfl (Nat.zero_le _) bd0
  rw [List.drop_zero] at this
  exact Gr_of this
theorem okP_bin (h : List Bool) (k : Int) : okP (binP h k) = true := by
  have hb := bin_bd h k
  unfold bdC at hb
  simp only [okP, binP, pt, Bool.and_eq_true, inR_iff]
  omega
theorem powerP_bin (h : List Bool) (k : Int) : powerP (binP h k) = powerV (bin h k) := by
  rw [(powerV_bd h k).1]
  simp only [powerP, binP, pt]
noncomputable def rbeat_W : FnW E := fn1 (E := E) .l_bool .int small beat
def rbeat_id : FuncId := 16
noncomputable def rbeat_O : Oracle E := orac [(31, rbin_W), (29, rlast_W), (30, rpower_W)] [] [] []
noncomputable def rbeat_H : Hint E := Hint.mk [] [] [] [] [] 5 []
noncomputable def rbeat_t (_G : Nat → ASt E → Option (List (TV E))) (x0 : List Bool) : Option (List (TV E)) :=
  bif (small x0) then (bif (decide (((last x0).length : Int) < (8 : Int))) then some [⟨.int, (0 : Int)⟩] else (bif (okBin x0 2) then (bif (okP (binP x0 2)) then (bif (decide ((w64 (((last x0).length : Int) * ((last x0).length : Int))) ≤ (w64 ((8 : Int) * (powerP (binP x0 2)))))) then some [⟨.int, (2 : Int)⟩] else (bif (okBin x0 1) then (bif (okP (binP x0 1)) then (bif (decide ((w64 (((last x0).length : Int) * ((last x0).length : Int))) ≤ (w64 ((16 : Int) * (powerP (binP x0 1)))))) then some [⟨.int, (4 : Int)⟩] else some [⟨.int, (0 : Int)⟩]) else none) else none)) else none) else none)) else none
theorem rbeat_e (G : Nat → ASt E → Option (List (TV E))) (x0 : List Bool) : runE rbeat_O rbeat_H G Tryz.f16 [⟨.l_bool, x0⟩] = rbeat_t G x0 := by kernel_rfl
theorem rbeat_f : Tryz.prog.funcs[16]? = some Tryz.f16 := by kernel_rfl
theorem rbeat_n : (Tryz.f16.name == "runtime.NumGoroutine") = false := by kernel_rfl
theorem rbeat_b : Tryz.f16.body.isNone = false := by kernel_rfl
theorem rbeat_hO : OracleOk E rbeat_O := orac_ok (.cons rbin_ok (.cons rlast_ok (.cons rpower_ok .nil))) .nil .nil .nil
theorem rbeat_ok_of (h : ∀ (x0 : List Bool), small x0 = true → rbeat_t (Gr E Tryz.f16 [⟨.int, beat x0⟩]) x0 = some [⟨.int, beat x0⟩]) : FnOk E rbeat_id rbeat_W := fn1_ok rbeat_hO mix rbeat_f rbeat_n rbeat_b (fun x0 hk => (rbeat_e _ x0).trans (h x0 hk))
theorem okBin_of {h : List Bool} (hk : small h = true) (k : Int) (h1 : 0 ≤ k) (h2 : k ≤ 3) : okBin h k = true := by
  simp only [okBin, hk, Bool.true_and, Bool.and_eq_true, decide_eq_true_eq]
  exact ⟨h1, h2⟩
theorem rbeat_ok : FnOk E rbeat_id rbeat_W := rbeat_ok_of fun h hk => by
  have p2 := powerV_bd h 2
  have p1 := powerV_bd h 1
  have hl := len2 h
  simp only [rbeat_t, hk, okBin_of hk 2 (by decide) (by decide), okBin_of hk 1 (by decide) (by decide), okP_bin, powerP_bin, beat, Bool.cond_eq_ite, ↓reduceIte]
  simp only [decide_eq_true_eq]
  exact beat_tree (last h).length _ _ _ hl p2.2 p1.2
end Go.Proofs.YtjpmmpomloldmaaGreat.Rf
