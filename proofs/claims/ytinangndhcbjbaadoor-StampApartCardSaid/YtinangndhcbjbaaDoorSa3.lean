/- Part 3 of a proof: the texts MirO MirP MirQ MirX MirY MirW MirU Shelf Plain P1, one behind the other. -/
import Derived.Test.YtinangndhcbjbaaDoorSa2
import Derived.RangeFuncRecord
import Derived.RangeFuncCalls
import Derived.Shelf.Strings.Builder1
import Derived.Shelf.Strings.Builder2
import Derived.Shelf.Strings.OnBuilder
import Derived.Shelf.Strings.BuilderF
import Derived.Shelf.Strings.BuilderK
import Derived.Shelf.Strings.Search1
import Derived.Shelf.Strings.Search2
import Derived.Shelf.Strings.Search3
import Derived.Shelf.LaysM
import Derived.Shelf.Strings.Shaped
import Derived.Shelf.Unicode.Decode
import Derived.Shelf.Unicode.DecodeSlow
import Derived.Shelf.Unicode.DecodeAny
import Derived.Test.YtinangndhcbjbaaDoorProg
import Derived.Lib.SlicesCompact
import Derived.Test.YtinangndhcbjbaaDoorRows
namespace Go.Proofs.YtinangndhcbjbaaDoor.Mir
open Go Go.RowKit
section
variable {P : Program} {E : Env P}
def frz1 (objs : List (Nat × AObj E)) : AV E → AV E
  | .row t n id => match look objs id with
    | some (.row t' l) => .grow t' l id
    | _ => .row t n id
  | v => v
def frzV (objs : List (Nat × AObj E)) : AV E → AV E
  | .agg cs => .agg (cs.map (frz1 objs))
  | .tup cs => .tup (cs.map (frz1 objs))
  | v => frz1 objs v
def frzO (objs : List (Nat × AObj E)) : AObj E → AObj E
  | .row _ _ => .tail true
  | .box cs => .box (cs.map (frz1 objs))
  | o => o
def frzT (objs : List (Nat × AObj E)) : List (Nat × AV E) → List (Nat × AV E)
  | [] => []
  | (t, v) :: r => (t, frzV objs v) :: frzT objs r
def frzOs (objs : List (Nat × AObj E)) : List (Nat × AObj E) → List (Nat × AObj E)
  | [] => []
  | (i, o) :: r => (i, frzO objs o) :: frzOs objs r
def freezeS (S : ASt E) : ASt E := ⟨S.n, frzT S.objs S.tmps, frzOs S.objs S.objs, S.next⟩
structure Hint (E : Env P) where
  live : List (Nat × List Nat) := []
  frz : List Nat := []
  nils : List (Nat × List (Nat × Option Nat × Bool × E.Ty)) := []
  /-- ahead of a region: slots whose whole number is one of 0, .., n - 1, case by case -/
  split : List (Nat × List (Nat × Nat)) := []
  /-- ahead of a region: slots whose box is laid open (from now on it is only read) -/
  opn : List (Nat × List Nat) := []
  /-- of a function that is walked where it is called: how many rounds its loops may go -/
  rounds : Nat := 5
  /-- regions of open order whose last operation comes behind all the others, and is done by itself -/
  lst : List Nat := []
def opn1 (id : Nat) (ds : List (DVal E.Den)) : AV E → AV E
  | .ptr id' off => match Nat.beq id' id with
    | true => .pelt (ds.drop off)
    | false => .ptr id' off
  | v => v
def opnV (id : Nat) (ds : List (DVal E.Den)) : AV E → AV E
  | .agg cs => .agg (cs.map (opn1 id ds))
  | .tup cs => .tup (cs.map (opn1 id ds))
  | v => opn1 id ds v
def opnO (id : Nat) (ds : List (DVal E.Den)) (i : Nat) : AObj E → AObj E
  | .box cs => match Nat.beq i id with
    | true => .dead
    | false => .box (cs.map (opn1 id ds))
  | o => o
def opnT (id : Nat) (ds : List (DVal E.Den)) : List (Nat × AV E) → List (Nat × AV E)
  | [] => []
  | (t, v) :: r => (t, opnV id ds v) :: opnT id ds r
def opnOs (id : Nat) (ds : List (DVal E.Den)) : List (Nat × AObj E) → List (Nat × AObj E)
  | [] => []
  | (i, o) :: r => (i, opnO id ds i o) :: opnOs id ds r
def open1 (t : Nat) (S : ASt E) : ASt E := match look S.tmps t with
  | some (.ptr id _) => match look S.objs id with
    | some (.box cs) => match toDs cs with
      | some ds => ⟨S.n, opnT id ds S.tmps, opnOs id ds S.objs, S.next⟩
      | none => S
    | _ => S
  | _ => S
def openS : List Nat → ASt E → ASt E
  | [], S => S
  | t :: r, S => openS r (open1 t S)
def splitN {R : Type} (k : ASt E → Option R) (S : ASt E) (t : Nat) (kd : IntKind) (i : Int) : Nat → Nat → Option R
  | 0, _ => none
  | m + 1, j => bif i == (j : Int) then k ⟨S.n, (t, .d (.int kd (j : Int))) :: S.tmps, S.objs, S.next⟩ else splitN k S t kd i m (j + 1)
def splitK {R : Type} : List (Nat × Nat) → ASt E → (ASt E → Option R) → Option R
  | [], S, k => k S
  | (t, n) :: r, S, k => match look S.tmps t with
    | some (.d (.int kd i)) => splitN (fun S' => splitK r S' k) S t kd i n 0
    | _ => none
def nilV (g : Bool) (t : E.Ty) (nid : Nat) : AV E := match g with
  | true => .grow t [] nid
  | false => .d (.slice t [])
def nilO (g : Bool) (S : ASt E) : List (Nat × AObj E) := match g with
  | true => (S.next, .tail true) :: S.objs
  | false => S.objs
def nil1 (s : Nat) (off : Option Nat) (g : Bool) (t : E.Ty) (S : ASt E) : ASt E := match look S.tmps s with
  | some v => match off with
    | none => bif isNil v then ⟨S.n, (s, nilV g t S.next) :: S.tmps, nilO g S, S.next + 1⟩ else S
    | some o => match v with
      | .ptr id _ => match look S.objs id with
        | some (.box cs) => match cs[o]? with
          | some u => bif isNil u then ⟨S.n, S.tmps, (id, .box (cs.set o (nilV g t S.next))) :: nilO g S, S.next + 1⟩ else S
          | none => S
        | _ => S
      | _ => S
  | none => S
def nilS : List (Nat × Option Nat × Bool × E.Ty) → ASt E → ASt E
  | [], S => S
  | (s, off, g, t) :: r, S => nilS r (nil1 s off g t S)
def memN : List Nat → Nat → Bool
  | [], _ => false
  | i :: r, j => Nat.beq i j || memN r j
def idxN : List Nat → Nat → Option Nat
  | [], _ => none
  | i :: r, j => if Nat.beq i j then some 0 else (match idxN r j with | some q => some (q + 1) | none => none)
def addN (l : List Nat) (i : Nat) : List Nat := match idxN l i with
  | some _ => l
  | none => l ++ [i]
def addAll (l : List Nat) : List Nat → List Nat
  | [] => l
  | i :: r => addAll (addN l i) r
def idsV : AV E → List Nat
  | .grow _ _ id => [id]
  | .ptr id _ => [id]
  | .row _ _ id => [id]
  | .elt id _ _ => [id]
  | .bsl _ id => [id]
  | .mk _ id => [id]
  | _ => []
def idsVs : List (AV E) → List Nat
  | [] => []
  | v :: r => idsV v ++ idsVs r
def idsW : AV E → List Nat
  | .agg cs => idsVs cs
  | v => idsV v
def idsWs : List (Nat × AV E) → List Nat
  | [] => []
  | (_, v) :: r => idsW v ++ idsWs r
def idsO (objs : List (Nat × AObj E)) : List Nat → List Nat
  | [] => []
  | i :: r => (match look objs i with | some (.box cs) => idsVs cs | _ => []) ++ idsO objs r
def closA : AV E → Bool
  | .d _ => true
  | .st _ _ => true
  | _ => false
def ren1 (ids : List Nat) : AV E → AV E
  | .grow t l id => match idxN ids id with
    | some j => .grow t l j
    | none => .d (.slice t l)
  | .ptr id off => match idxN ids id with
    | some j => .ptr j off
    | none => .any
  | .row t n id => match idxN ids id with
    | some j => .row t n j
    | none => .any
  | .elt id i off => match idxN ids id with
    | some j => .elt j i off
    | none => .any
  | .fn f a b => bif a.all closA && b.all closA then .fn f a b else .any
  | .bsl n id => match idxN ids id with
    | some j => .bsl n j
    | none => .any
  | .mk T id => match idxN ids id with
    | some j => .mk T j
    | none => .any
  | .d c => .d c
  | .st t x => .st t x
  | .pelt cs => .pelt cs
  | _ => .any
def renV (ids : List Nat) : AV E → AV E
  | .agg cs => .agg (cs.map (ren1 ids))
  | v => ren1 ids v
def renO (ids : List Nat) : AObj E → AObj E
  | .box cs => .box (cs.map (ren1 ids))
  | o => o
def plainV (objs : List (Nat × AObj E)) : AV E → AV E
  | .grow t l id => match look objs id with
    | some (.tail true) => .grow t l id
    | _ => .d (.slice t l)
  | v => v
def keepT (S : ASt E) : List Nat → List (Nat × AV E)
  | [] => []
  | t :: r => match look S.tmps t with | some x => (t, plainV S.objs x) :: keepT S r | none => keepT S r
def renT (ids : List Nat) : List (Nat × AV E) → List (Nat × AV E)
  | [] => []
  | (t, v) :: r => (t, renV ids v) :: renT ids r
def renOs (objs : List (Nat × AObj E)) (ids : List Nat) : List Nat → Nat → List (Nat × AObj E)
  | [], _ => []
  | i :: r, j => (j, match look objs i with | some o => renO ids o | none => .dead) :: renOs objs ids r (j + 1)
def headS (live : List Nat) (S : ASt E) : ASt E :=
  let kept := keepT S live
  let ids0 := addAll [] (idsWs kept)
  let ids := addAll ids0 (idsO S.objs ids0)
  ⟨S.n, renT ids kept, renOs S.objs ids ids 0, ids.length⟩
inductive AExit where
  | normal
  | exit (id : Nat)
  | ret
  | goto (l : Nat)
def AExit.toExit : AExit → Exit
  | .normal => .normal
  | .exit id => .exit id
  | .ret => .ret
  | .goto l => .goto l
def nloops : Code → Nat
  | .seq a b => nloops a + nloops b
  | .cond _ a b => nloops a + nloops b
  | .block _ b => nloops b
  | .loop b => nloops b + 1
  | _ => 0
def atN {α : Type} (l : List (Nat × List α)) (i : Nat) : List α := match look l i with
  | some x => x
  | none => []
def headAt (h : Hint E) (i : Nat) (S : ASt E) : ASt E := headS (atN h.live i) (nilS (atN h.nils i) S)
def evReg {R : Type} (O : Oracle E) (ops : Array Oper) (dr : Bool) (S : ASt E) (k : ASt E → Option R) : Option R := match dr with
  | true => evDraw O ops S.n S.tmps S.objs S.next ops.toList [] 0 k
  | false => evSeq O ops S.n S.tmps ops.toList [] S.objs S.next k
def evRegL {R : Type} (b : Bool) (O : Oracle E) (ops : Array Oper) (dr : Bool) (S : ASt E) (k : ASt E → Option R) : Option R := match b, dr with
  | true, true => evLast O ops S k
  | _, _ => evReg O ops dr S k
def seqK {R : Type} (f : ASt E → Option R) (k : AExit → ASt E → Option R) (e : AExit) (S : ASt E) : Option R := match e with
  | .normal => f S
  | .exit id => k (.exit id) S
  | .ret => k .ret S
  | .goto l => k (.goto l) S
def blockK {R : Type} (id : Nat) (k : AExit → ASt E → Option R) (e : AExit) (S : ASt E) : Option R := match e with
  | .normal => k .normal S
  | .exit i => (match Nat.beq i id with | true => k .normal S | false => k (.exit i) S)
  | .ret => k .ret S
  | .goto l => k (.goto l) S
def hasScope : Code → Bool
  | .seq a b => hasScope a || hasScope b
  | .cond _ a b => hasScope a || hasScope b
  | .block _ b => hasScope b
  | .loop b => hasScope b
  | .scope _ => true
  | _ => false
def scopeK {R : Type} (h : Hint E) (G : Nat → ASt E → Option R) (c : Code) (k : AExit → ASt E → Option R) (e : AExit) (S : ASt E) : Option R := match e with
  | .normal => k .normal S
  | .exit id => k (.exit id) S
  | .ret => k .ret S
  | .goto l => (match findLabel c l with | some _ => G (100 + l) (headAt h (100 + l) S) | none => none)
def evCode {R : Type} (O : Oracle E) (h : Hint E) (G : Nat → ASt E → Option R) : Nat → Code → ASt E → (AExit → ASt E → Option R) → Option R
  | _, .skip, S, k => k .normal S
  | _, .region id ops dr, S, k => splitK (atN h.split id) (openS (atN h.opn id) (match memN h.frz id with | true => freezeS S | false => S)) fun S' => evRegL (memN h.lst id) O ops dr S' (k .normal)
  | i, .seq x y, S, k => (match hasScope x && hasScope y with
    | true => none
    | false => evCode O h G i x S (seqK (fun S' => evCode O h G (i + nloops x) y S' k) k))
  | i, .cond c x y, S, k => (match hasScope x || hasScope y with
    | true => none
    | false => match getA S.tmps [] c with
      | .d (.bool b) => bif b then evCode O h G i x S k else evCode O h G (i + nloops x) y S k
      | _ => none)
  | i, .scope c, S, k => (match hasScope c, nloops c with
    | false, 0 => evCode O h G i c S (scopeK h G c k)
    | _, _ => none)
  | _, .label _, S, k => k .normal S
  | _, .goto l, S, k => k (.goto l) S
  | i, .block id body, S, k => evCode O h G i body S (blockK id k)
  | i, .loop _, S, _ => G i (headAt h i S)
  | _, .exit id, S, k => k (.exit id) S
  | _, .ret, S, k => k .ret S
  | _, _, _, _ => none
def ctxK {R : Type} (O : Oracle E) (h : Hint E) (G : Nat → ASt E → Option R) : Nat → Code → Nat → (AExit → ASt E → Option R) → Option (Nat × Code × (AExit → ASt E → Option R))
  | i, .loop b, 0, k => some (i, b, k)
  | i, .loop b, j + 1, k => ctxK O h G (i + 1) b j (seqK (fun S => G i (headAt h i S)) k)
  | i, .seq x y, j, k => match Nat.blt j (nloops x) with
    | true => ctxK O h G i x j (seqK (fun S' => evCode O h G (i + nloops x) y S' k) k)
    | false => ctxK O h G (i + nloops x) y (j - nloops x) k
  | i, .cond _ x y, j, k => match Nat.blt j (nloops x) with
    | true => ctxK O h G i x j k
    | false => ctxK O h G (i + nloops x) y (j - nloops x) k
  | i, .block id b, j, k => ctxK O h G i b j (blockK id k)
  | _, _, _, _ => none
def ctxS {R : Type} (O : Oracle E) (h : Hint E) (G : Nat → ASt E → Option R) : Nat → Code → (AExit → ASt E → Option R) → Option (Code × (AExit → ASt E → Option R))
  | _, .scope c, k => some (c, k)
  | i, .seq x y, k => (match hasScope x, hasScope y with
    | true, false => ctxS O h G i x (seqK (fun S' => evCode O h G (i + nloops x) y S' k) k)
    | false, true => ctxS O h G (i + nloops x) y k
    | _, _ => none)
  | i, .block id b, k => ctxS O h G i b (blockK id k)
  | _, _, _ => none
def segS {R : Type} (O : Oracle E) (h : Hint E) (G : Nat → ASt E → Option R) (c : Code) (l : Nat) (S : ASt E) (k : AExit → ASt E → Option R) : Option R := match ctxS O h G 0 c k with
  | some (sc, k') => (match findLabel sc l with
    | some rest => (match hasScope rest, nloops rest with
      | false, 0 => evCode O h G 0 rest S (scopeK h G sc k')
      | _, _ => none)
    | none => none)
  | none => none
def segC {R : Type} (O : Oracle E) (h : Hint E) (G : Nat → ASt E → Option R) (c : Code) (j : Nat) (S : ASt E) (k : AExit → ASt E → Option R) : Option R := match Nat.ble 100 j with
  | true => (match Nat.ble (nloops c) 100 with
    | true => segS O h G c (j - 100) S k
    | false => none)
  | false => (match hasScope c with
    | true => none
    | false => (match ctxK O h G 0 c j k with
      | some (i, b, k) => evCode O h G (i + 1) b S (seqK (fun S => G i (headAt h i S)) k)
      | none => none))
end
section
variable {P : Program} {E : Env P} {w : World} {ro : Nat → Nat → Prop} {ι : Nat → Option Gh} {S : ASt E} {a : Act} {w0 : Start} {ro0 : Nat → Nat → Prop}
theorem isNil_eq {v : AV E} (h : isNil v = true) : v = .d (.raw (.slice none 0 0)) := by
  unfold isNil at h
  split at h
  · rfl
  · cases h
def nilGh (E : Env P) (t : E.Ty) : Gh := ⟨.slice none 0 0, 0, E.tid t, E.size t, none⟩
theorem nilO_sound (g : Bool) (t : E.Ty) (hg : Gam E w0 ro0 S a w ι ro) : ∃ ι', (∀ id gh, ι id = some gh → ι' id = some gh) ∧ Gam E w0 ro0 ⟨S.n, S.tmps, nilO g S, S.next + 1⟩ a w ι' ro ∧ Rep E w ro ι' (.slice none 0 0) (nilV g t S.next) := by
  cases g with
  | false =>
    exact ⟨ι, fun _ _ h => h, ⟨hg.base, hg.size, hg.tmps, hg.objs, hg.inj, fun id h => hg.fresh id (by have h : S.next + 1 ≤ id := h; omega), fun id o h => by have := hg.ids id o h; show id < S.next + 1; omega⟩, .d _ _ (.nil t none 0)⟩
  | true =>
    have hfresh := hg.fresh S.next (Nat.le_refl _)
    have hext := setGh_ext ι S.next (nilGh E t) hfresh
    have hnew : setGh ι S.next (nilGh E t) S.next = some (nilGh E t) := if_pos rfl
    have hold : ∀ id, id ≠ S.next → setGh ι S.next (nilGh E t) id = ι id := fun id h => if_neg h
    refine ⟨setGh ι S.next (nilGh E t), hext, ⟨⟨hg.base.below, hg.base.rolt, hg.base.ronew, fun id gh k h1 h2 => ?_, hg.base.defers, fun q hq => ⟨(hg.base.keep q hq).1, fun id gh h => hext id gh ((hg.base.keep q hq).2 id gh h)⟩, fun k o h => ⟨(hg.base.held k o h).1, fun id gh h1 h2 => by by_cases e : id = S.next; (· subst e; rw [hnew] at h1; cases h1; cases h2); (· rw [hold id e] at h1; exact (hg.base.held k o h).2 id gh h1 h2)⟩⟩, hg.size, fun t' x hl => ?_, fun id o hl => ?_, ?_, fun id h => ?_, fun id o hl => ?_⟩, ?_⟩
    · by_cases e : id = S.next
      · subst e; rw [hnew] at h1; cases h1; cases h2
      · rw [hold id e] at h1; exact hg.base.ilt id gh k h1 h2
    · obtain ⟨v, hv, hs⟩ := hg.tmps t' x hl
      exact ⟨v, hv, hs.mono (fun _ _ h => h) (fun _ _ _ => rfl) hext⟩
    · simp only [nilO, look] at hl
      split at hl
      · rename_i hb
        have := Nat.eq_of_beq_eq_true hb
        subst this
        cases hl
        intro _
        exact ⟨nilGh E t, [], hnew, .inl ⟨World.ownsRow_nil w 0 _ _, rfl⟩, fun g hg => by cases hg⟩
      · rename_i hb
        have hne : id ≠ S.next := fun e => by subst e; simp at hb
        have h := hg.objs id o hl
        cases o with
        | dead => trivial
        | box cs =>
          obtain ⟨gh, g, vs, ty, h1, h2, hb, h3, h4, h5, h6⟩ := h
          exact ⟨gh, g, vs, ty, hext _ _ h1, h2, hb, h3, h4, fun j v c hv hc => ⟨(h5 j v c hv hc).1, (h5 j v c hv hc).2.mono (fun _ _ h => h) (fun _ _ _ => rfl) hext⟩, h6⟩
        | tail l =>
          intro hl
          obtain ⟨gh, xs, h1, h2⟩ := h hl
          exact ⟨gh, xs, hext _ _ h1, h2⟩
        | row t l =>
          obtain ⟨gh, xs, h1, h2⟩ := h
          exact ⟨gh, xs, hext _ _ h1, h2⟩
    · intro id id' o o' gh gh' k hl hl' l1 l2 i1 i2 b1 b2
      by_cases e : id = S.next
      · subst e; rw [hnew] at i1; cases i1; cases b1
      · by_cases e' : id' = S.next
        · subst e'; rw [hnew] at i2; cases i2; cases b2
        · rw [hold id e] at i1
          rw [hold id' e'] at i2
          simp only [nilO, look] at hl hl'
          rw [if_neg (fun hb => e (Nat.eq_of_beq_eq_true hb).symm)] at hl
          rw [if_neg (fun hb => e' (Nat.eq_of_beq_eq_true hb).symm)] at hl'
          exact hg.inj id id' o o' gh gh' k hl hl' l1 l2 i1 i2 b1 b2
    · have h : S.next + 1 ≤ id := h
      rw [hold id (by omega)]
      exact hg.fresh id (by omega)
    · simp only [nilO, look] at hl
      show id < S.next + 1
      split at hl
      · rename_i hb
        have := Nat.eq_of_beq_eq_true hb
        omega
      · have := hg.ids id o hl; omega
    · exact .grow (nilGh E t) t [] S.next hnew rfl rfl rfl (.nil t none 0)
theorem nilV_cond {g : Bool} {t : E.Ty} {i : Nat} : isCond (nilV (E := E) g t i) = false := by cases g <;> rfl
theorem nil1_sound (s : Nat) (off : Option Nat) (g : Bool) (t : E.Ty) (hnc : NoCond S.tmps) (hg : Gam E w0 ro0 S a w ι ro) : ∃ ι', NoCond (nil1 s off g t S).tmps ∧ Gam E w0 ro0 (nil1 s off g t S) a w ι' ro ∧ (nil1 s off g t S).n = S.n := by
  have same : ∃ ι', NoCond S.tmps ∧ Gam E w0 ro0 S a w ι' ro ∧ S.n = S.n := ⟨ι, hnc, hg, rfl⟩
  unfold nil1
  split
  · rename_i v hv
    split
    · cases hn : isNil v with
      | false => exact same
      | true =>
        simp only [cond_true]
        obtain rfl := isNil_eq hn
        obtain ⟨ι', hext, hg', hr⟩ := nilO_sound g t hg
        obtain ⟨u, hu, hs⟩ := hg.tmps s _ hv
        have hu' : u = .slice none 0 0 := Rep.raw_inv hs
        subst hu'
        refine ⟨ι', fun p hp => ?_, ⟨hg'.base, hg'.size, fun t' x hl => ?_, hg'.objs, hg'.inj, hg'.fresh, hg'.ids⟩, trivial⟩
        · cases hp with
          | head => exact nilV_cond
          | tail _ hp => exact hnc p hp
        · simp only [look] at hl
          split at hl
          · rename_i hb
            have := Nat.eq_of_beq_eq_true hb
            subst this
            cases hl
            refine ⟨_, hu, ?_⟩
            have hc := nilV_cond (E := E) (g := g) (t := t) (i := S.next)
            generalize nilV g t S.next = y at hr hc
            cases y <;> first | exact hr | cases hc
          · exact hg'.tmps t' x hl
    · rename_i o
      split
      · rename_i id off'
        split
        · rename_i cs hob
          split
          · rename_i u hu
            cases hn : isNil u with
            | false => exact same
            | true =>
              simp only [cond_true]
              obtain rfl := isNil_eq hn
              obtain ⟨ι', hext, hg', hr⟩ := nilO_sound g t hg
              have hlt := hg.ids id _ hob
              have hob' : look (nilO g S) id = some (.box cs) := by
                cases g with
                | false => exact hob
                | true => simp only [nilO, look]; rw [if_neg (fun hb => by have := Nat.eq_of_beq_eq_true hb; omega)]; exact hob
              refine ⟨ι', hnc, ⟨hg'.base, hg'.size, hg'.tmps, fun id' o' hl => ?_, ?_, hg'.fresh, fun id' o' hl => ?_⟩, trivial⟩
              · simp only [look] at hl
                split at hl
                · rename_i hb
                  have := Nat.eq_of_beq_eq_true hb
                  subst this
                  cases hl
                  obtain ⟨gh, g', vs, ty, h1, h2, hb, h3, h4, h5, h6⟩ := hg'.objs id _ hob'
                  refine ⟨gh, g', vs, ty, h1, h2, hb, h3, by simp [h4], fun j v c hv hc => ?_, h6⟩
                  have hjl : j < cs.length := by have := (List.getElem?_eq_some_iff.1 hc).1; simpa using this
                  have hcj := List.getElem?_eq_getElem hjl
                  have h5j := h5 j v _ hv hcj
                  refine ⟨h5j.1, ?_⟩
                  by_cases hjo : j = o
                  · subst hjo
                    rw [List.getElem?_set_self hjl] at hc
                    cases hc
                    have h5u := (h5 j v _ hv hu).2
                    have : v = .slice none 0 0 := Rep.raw_inv h5u
                    subst this
                    exact hr
                  · rw [List.getElem?_set_ne (fun e => hjo e.symm)] at hc
                    exact (h5 j v c hv hc).2
                · exact hg'.objs id' o' hl
              · intro i1 i2 o1 o2 gh gh' k hl hl' l1 l2 e1 e2 b1 b2
                have lift : ∀ i ob, look ((id, AObj.box (cs.set o (nilV g t S.next))) :: nilO g S) i = some ob → ob.live = true → ∃ ob', look (nilO g S) i = some ob' ∧ ob'.live = true := by
                  intro i ob h hl
                  simp only [look] at h
                  split at h
                  · rename_i hb
                    have := Nat.eq_of_beq_eq_true hb
                    subst this
                    exact ⟨_, hob', rfl⟩
                  · exact ⟨ob, h, hl⟩
                obtain ⟨q1, g1, g2⟩ := lift i1 o1 hl l1
                obtain ⟨q2, g3, g4⟩ := lift i2 o2 hl' l2
                exact hg'.inj i1 i2 q1 q2 gh gh' k g1 g3 g2 g4 e1 e2 b1 b2
              · simp only [look] at hl
                split at hl
                · rename_i hb
                  have := Nat.eq_of_beq_eq_true hb
                  subst this
                  show id < S.next + 1
                  omega
                · exact hg'.ids id' o' hl
          · exact same
        · exact same
      · exact same
  · exact same
theorem nilS_sound : ∀ (l : List (Nat × Option Nat × Bool × E.Ty)) (S : ASt E) (ι : Nat → Option Gh), NoCond S.tmps → Gam E w0 ro0 S a w ι ro → ∃ ι', NoCond (nilS l S).tmps ∧ Gam E w0 ro0 (nilS l S) a w ι' ro ∧ (nilS l S).n = S.n
  | [], S, ι, hnc, hg => ⟨ι, hnc, hg, rfl⟩
  | (s, off, g, t) :: r, S, ι, hnc, hg => by
    obtain ⟨ι1, h1, h2, h3⟩ := nil1_sound s off g t hnc hg
    obtain ⟨ι2, h4, h5, h6⟩ := nilS_sound r (nil1 s off g t S) ι1 h1 h2
    exact ⟨ι2, h4, h5, h6.trans h3⟩
theorem look_frzT {objs : List (Nat × AObj E)} : ∀ {l : List (Nat × AV E)} {t : Nat} {y : AV E}, look (frzT objs l) t = some y → ∃ x, look l t = some x ∧ y = frzV objs x
  | [], _, _, h => by cases h
  | (u, x) :: r, t, y, h => by
    simp only [frzT, look] at h ⊢
    split at h
    · rename_i hb; rw [if_pos hb]; cases h; exact ⟨x, rfl, rfl⟩
    · rename_i hb; rw [if_neg hb]; exact look_frzT h
theorem look_frzOs {objs : List (Nat × AObj E)} : ∀ {l : List (Nat × AObj E)} {t : Nat} {y : AObj E}, look (frzOs objs l) t = some y → ∃ x, look l t = some x ∧ y = frzO objs x
  | [], _, _, h => by cases h
  | (u, x) :: r, t, y, h => by
    simp only [frzOs, look] at h ⊢
    split at h
    · rename_i hb; rw [if_pos hb]; cases h; exact ⟨x, rfl, rfl⟩
    · rename_i hb; rw [if_neg hb]; exact look_frzOs h
theorem frz1_cond {objs : List (Nat × AObj E)} {x : AV E} : isCond (frz1 objs x) = isCond x := by
  cases x <;> try rfl
  rename_i t n id
  show isCond (match look objs id with | some (.row t' l) => .grow t' l id | _ => .row t n id) = false
  split <;> rfl
theorem frzV_cond {objs : List (Nat × AObj E)} {x : AV E} : isCond (frzV objs x) = isCond x := by
  have h := frz1_cond (objs := objs) (x := x)
  cases x <;> first | rfl | exact h
theorem noCond_frzT {objs : List (Nat × AObj E)} : ∀ {l : List (Nat × AV E)}, NoCond l → NoCond (frzT objs l)
  | [], _ => fun p h => by cases h
  | (t, x) :: r, hn => fun p h => by
    cases h with
    | head => exact frzV_cond.trans (hn (t, x) List.mem_cons_self)
    | tail _ h => exact noCond_frzT (fun p h => hn p (List.mem_cons_of_mem _ h)) p h
def frzRo (objs : List (Nat × AObj E)) (ι : Nat → Option Gh) (ro : Nat → Nat → Prop) : Nat → Nat → Prop := fun k o =>
  ro k o ∨ ∃ id t l gh, look objs id = some (.row t l) ∧ ι id = some gh ∧ gh.blk = some k ∧ o < gh.n * gh.sz
theorem freezeS_sound (hnc : NoCond S.tmps) (hg : Gam E w0 ro0 S a w ι ro) : NoCond (freezeS S).tmps ∧ Gam E w0 ro0 (freezeS S) a w ι (frzRo S.objs ι ro) := by
  have hro : ∀ k o, ro k o → frzRo S.objs ι ro k o := fun _ _ h => .inl h
  have one : ∀ (v : Value) (x : AV E), Rep E w ro ι v x → Rep E w (frzRo S.objs ι ro) ι v (frz1 S.objs x) := by
    intro v x h
    have hm := h.mono (w' := w) hro (fun _ _ _ => rfl) (fun _ _ h => h)
    cases h with
    | row gh t id ad cap h1 h2 h3 h4 h5 =>
      show Rep E w _ ι gh.v (match look S.objs id with | some (.row t' l) => .grow t' l id | _ => .row t gh.n id)
      split
      · rename_i t' l hob
        obtain ⟨gh', xs, hi', hn, hge, hgs, hown, hrow, hnro⟩ := hg.objs id _ hob
        rw [h1] at hi'
        cases hi'
        refine .grow gh t' l id h1 hn hge hgs ?_
        have hown' := hown
        unfold OwnT at hown'
        rw [hn, hge, hgs] at hown'
        refine slice_of_rowD hown' (fun g o hb ho => .inr ⟨id, t', l, gh, hob, h1, hb, by rw [hn, hgs]; exact ho⟩) (hrow.mono hro (fun _ _ _ => rfl))
      · exact hm
    | _ => exact hm
  have many : ∀ (vs : Array Value) (cs : List (AV E)), (∀ (j : Nat) v c, vs[j]? = some v → cs[j]? = some c → Rep E w ro ι v c) → ∀ (j : Nat) v c, vs[j]? = some v → (cs.map (frz1 S.objs))[j]? = some c → Rep E w (frzRo S.objs ι ro) ι v c := by
    intro vs cs h j v c hv hc
    rw [List.getElem?_map] at hc
    cases hx : cs[j]? with
    | none => rw [hx] at hc; cases hc
    | some y => rw [hx] at hc; cases hc; exact one v y (h j v y hv hx)
  have all : ∀ (v : Value) (x : AV E), Rep E w ro ι v x → Rep E w (frzRo S.objs ι ro) ι v (frzV S.objs x) := by
    intro v x h
    have h1 := one v x h
    cases h with
    | agg vs cs hs hi => exact .agg vs _ (by simp [hs]) (many vs cs hi)
    | tup vs cs hs hi => exact .tup vs _ (by simp [hs]) (many vs cs hi)
    | _ => exact h1
  have blkne : ∀ id ob, look S.objs id = some ob → ob.live = true → ∀ gh k, ι id = some gh → gh.blk = some k → ∀ id' t l gh', look S.objs id' = some (.row t l) → ι id' = some gh' → gh'.blk = some k → id = id' :=
    fun id ob h1 h2 gh k h3 h4 id' t l gh' h5 h6 h7 => hg.inj id id' ob _ gh gh' k h1 h5 h2 rfl h3 h6 h4 h7
  refine ⟨noCond_frzT hnc, ⟨hg.base.below, fun k o h => ?_, fun k o h => ?_, hg.base.ilt, hg.base.defers, fun q hq => ⟨fun k o h => ⟨.inl ((hg.base.keep q hq).1 k o h).1, ((hg.base.keep q hq).1 k o h).2⟩, (hg.base.keep q hq).2⟩, hg.base.held⟩, hg.size, fun t y hl => ?_, fun id o hl => ?_, ?_, hg.fresh, fun id o hl => ?_⟩
  · rcases h with h | ⟨id, t, l, gh, _, hi, hb, _⟩
    · exact hg.base.rolt k o h
    · exact (hg.base.ilt id gh k hi hb).2
  · rcases h with h | ⟨id, t, l, gh, _, hi, hb, _⟩
    · exact hg.base.ronew k o h
    · exact .inr (hg.base.ilt id gh k hi hb).1
  · obtain ⟨x, hx, rfl⟩ := look_frzT hl
    obtain ⟨v, hv, hs⟩ := hg.tmps t x hx
    have hc : isCond x = false := hnc _ (look_mem _ _ _ hx)
    have hr : Rep E w ro ι v x := by cases x <;> first | exact hs | cases hc
    refine ⟨v, hv, ?_⟩
    have h2 := all v x hr
    have h3 : isCond (frzV S.objs x) = false := frzV_cond.trans hc
    generalize frzV S.objs x = y at h2 h3
    cases y <;> first | exact h2 | cases h3
  · obtain ⟨o', ho', rfl⟩ := look_frzOs hl
    have h := hg.objs id o' ho'
    cases o' with
    | dead => trivial
    | box cs =>
      obtain ⟨gh, g, vs, ty, h1, h2, hb, h3, h4, h5, h6⟩ := h
      refine ⟨gh, g, vs, ty, h1, h2, hb, h3, by simp [h4], fun j v c hv hc => ⟨?_, many vs cs (fun j v c hv hc => (h5 j v c hv hc).2) j v c hv hc⟩, fun o hr => ?_, h6.2⟩
      · have hj : j < cs.length := by have := (List.getElem?_eq_some_iff.1 hc).1; simpa using this
        exact (h5 j v _ hv (List.getElem?_eq_getElem hj)).1
      · rcases hr with hr | ⟨id', t, l, gh', hob', hi', hb', _⟩
        · exact h6.1 o hr
        · have := blkne id _ ho' rfl gh g h1 hb id' t l gh' hob' hi' hb'
          subst this
          rw [ho'] at hob'; cases hob'
    | tail live =>
      intro hlive
      obtain ⟨gh, xs, h1, h2, h3⟩ := h hlive
      refine ⟨gh, xs, h1, h2, fun g hb o ho hr => ?_⟩
      rcases hr with hr | ⟨id', t, l, gh', hob', hi', hb', _⟩
      · exact h3 g hb o ho hr
      · have := blkne id _ ho' hlive gh g h1 hb id' t l gh' hob' hi' hb'
        subst this
        rw [ho'] at hob'; cases hob'
    | row t l =>
      intro _
      obtain ⟨gh, xs, h1, hn, hge, hgs, hown, hrow, hnro⟩ := h
      refine ⟨gh, xs, h1, hown, fun g hb o ho hr => ?_⟩
      rcases hr with hr | ⟨id', t', l', gh', hob', hi', hb', ho''⟩
      · exact hnro g hb o hr
      · have := blkne id _ ho' rfl gh g h1 hb id' t' l' gh' hob' hi' hb'
        subst this
        rw [h1] at hi'
        cases hi'
        omega
  · intro id id' o o' gh gh' k hl hl' l1 l2 i1 i2 b1 b2
    obtain ⟨q, hq, rfl⟩ := look_frzOs hl
    obtain ⟨q', hq', rfl⟩ := look_frzOs hl'
    have e1 : q.live = true := by cases q <;> first | exact l1 | rfl
    have e2 : q'.live = true := by cases q' <;> first | exact l2 | rfl
    exact hg.inj id id' q q' gh gh' k hq hq' e1 e2 i1 i2 b1 b2
  · obtain ⟨q, hq, rfl⟩ := look_frzOs hl
    exact hg.ids id q hq
theorem opn1_cond {id : Nat} {ds : List (DVal E.Den)} {x : AV E} : isCond (opn1 id ds x) = isCond x := by
  cases x <;> try rfl
  rename_i id' off
  show isCond (match Nat.beq id' id with | true => .pelt (ds.drop off) | false => .ptr id' off) = false
  split <;> rfl
theorem opnV_cond {id : Nat} {ds : List (DVal E.Den)} {x : AV E} : isCond (opnV id ds x) = isCond x := by
  have h := opn1_cond (id := id) (ds := ds) (x := x)
  cases x <;> first | rfl | exact h
theorem noCond_opnT {id : Nat} {ds : List (DVal E.Den)} : ∀ {l : List (Nat × AV E)}, NoCond l → NoCond (opnT id ds l)
  | [], _ => fun p h => by cases h
  | (t, x) :: r, hn => fun p h => by
    cases h with
    | head => exact opnV_cond.trans (hn (t, x) List.mem_cons_self)
    | tail _ h => exact noCond_opnT (fun p h => hn p (List.mem_cons_of_mem _ h)) p h
theorem look_opnT {id : Nat} {ds : List (DVal E.Den)} : ∀ {l : List (Nat × AV E)} {t : Nat} {y : AV E}, look (opnT id ds l) t = some y → ∃ x, look l t = some x ∧ y = opnV id ds x
  | [], _, _, h => by cases h
  | (u, x) :: r, t, y, h => by
    simp only [opnT, look] at h ⊢
    split at h
    · rename_i hb; rw [if_pos hb]; cases h; exact ⟨x, rfl, rfl⟩
    · rename_i hb; rw [if_neg hb]; exact look_opnT h
theorem look_opnOs {id : Nat} {ds : List (DVal E.Den)} : ∀ {l : List (Nat × AObj E)} {t : Nat} {y : AObj E}, look (opnOs id ds l) t = some y → ∃ x, look l t = some x ∧ y = opnO id ds t x
  | [], _, _, h => by cases h
  | (u, x) :: r, t, y, h => by
    simp only [opnOs, look] at h ⊢
    split at h
    · rename_i hb
      rw [if_pos hb]
      cases h
      rw [Nat.eq_of_beq_eq_true hb]
      exact ⟨x, rfl, rfl⟩
    · rename_i hb; rw [if_neg hb]; exact look_opnOs h
theorem open1_sound (t : Nat) (hnc : NoCond S.tmps) (hg : Gam E w0 ro0 S a w ι ro) : ∃ ro', NoCond (open1 t S).tmps ∧ Gam E w0 ro0 (open1 t S) a w ι ro' ∧ (open1 t S).n = S.n := by
  have same : ∃ ro', NoCond S.tmps ∧ Gam E w0 ro0 S a w ι ro' ∧ S.n = S.n := ⟨ro, hnc, hg, rfl⟩
  unfold open1
  split
  · rename_i id off0 hv
    split
    · rename_i cs hob
      split
      · rename_i ds hds
        obtain ⟨gh, g, vs, ty, h1, h2, hb, h3, h4, h5, h6⟩ := hg.objs id _ hob
        have hlt := (hg.base.ilt id gh g h1 hb)
        have hdl := toDs_len hds
        let ro' : Nat → Nat → Prop := fun k o => ro k o ∨ (k = g ∧ o < cs.length)
        have hro : ∀ k o, ro k o → ro' k o := fun _ _ h => .inl h
        have one : ∀ (v : Value) (x : AV E), Rep E w ro ι v x → Rep E w ro' ι v (opn1 id ds x) := by
          intro v x h
          have hm := h.mono (w' := w) hro (fun _ _ _ => rfl) (fun _ _ h => h)
          cases h with
          | ptr gh' g' id' off i1 i2 =>
            show Rep E w ro' ι _ (match Nat.beq id' id with | true => .pelt (ds.drop off) | false => .ptr id' off)
            split
            · rename_i hbq
              have := Nat.eq_of_beq_eq_true hbq
              subst this
              rw [h1] at i1
              cases i1
              rw [h2] at i2
              cases i2
              refine .pelt g off (fun j => vs.getD (off + j) undef) (ds.drop off) (fun j c hc => ?_) (fun j c hc => ?_)
              · rw [List.getElem?_drop] at hc
                have hj : off + j < cs.length := by rw [← hdl]; exact (List.getElem?_eq_some_iff.1 hc).1
                have hjv : off + j < vs.size := by omega
                refine ⟨.inr ⟨rfl, hj⟩, ?_⟩
                simp [World.cell?, h3, hjv, Array.getD]
              · rw [List.getElem?_drop] at hc
                have hj : off + j < cs.length := by rw [← hdl]; exact (List.getElem?_eq_some_iff.1 hc).1
                have hjv : off + j < vs.size := by omega
                have hvj : vs[off + j]? = some vs[off + j] := Array.getElem?_eq_getElem hjv
                have hcj := List.getElem?_eq_getElem hj
                have hr := toD_rep (h5 _ _ _ hvj hcj).2 (toDs_at hds _ _ _ hcj hc)
                have e : vs.getD (off + j) undef = vs[off + j] := by simp [Array.getD, hjv]
                rw [e]
                exact hr.mono hro (fun _ _ _ => rfl)
            · exact hm
          | _ => exact hm
        have many : ∀ (vs : Array Value) (cs : List (AV E)), (∀ (j : Nat) v c, vs[j]? = some v → cs[j]? = some c → Rep E w ro ι v c) → ∀ (j : Nat) v c, vs[j]? = some v → (cs.map (opn1 id ds))[j]? = some c → Rep E w ro' ι v c := by
          intro vs cs h j v c hv hc
          rw [List.getElem?_map] at hc
          cases hx : cs[j]? with
          | none => rw [hx] at hc; cases hc
          | some y => rw [hx] at hc; cases hc; exact one v y (h j v y hv hx)
        have all : ∀ (v : Value) (x : AV E), Rep E w ro ι v x → Rep E w ro' ι v (opnV id ds x) := by
          intro v x h
          have h1 := one v x h
          cases h with
          | agg vs cs hs hi => exact .agg vs _ (by simp [hs]) (many vs cs hi)
          | tup vs cs hs hi => exact .tup vs _ (by simp [hs]) (many vs cs hi)
          | _ => exact h1
        have other : ∀ id' ob gh' g', look S.objs id' = some ob → ob.live = true → ι id' = some gh' → gh'.blk = some g' → id' ≠ id → g' ≠ g := by
          intro id' ob gh' g' q1 q2 q3 q4 hne e
          subst e
          exact hne (hg.inj id' id ob _ gh' gh g' q1 hob q2 rfl q3 h1 q4 hb)
        refine ⟨ro', noCond_opnT hnc, ⟨⟨hg.base.below, fun k o h => ?_, fun k o h => ?_, hg.base.ilt, hg.base.defers, fun q hq => ⟨fun k o h => ⟨.inl ((hg.base.keep q hq).1 k o h).1, ((hg.base.keep q hq).1 k o h).2⟩, (hg.base.keep q hq).2⟩, hg.base.held⟩, hg.size, fun t y hl => ?_, fun id' o hl => ?_, ?_, hg.fresh, fun id' o hl => ?_⟩, rfl⟩
        · rcases h with h | ⟨rfl, _⟩
          · exact hg.base.rolt k o h
          · exact hlt.2
        · rcases h with h | ⟨rfl, _⟩
          · exact hg.base.ronew k o h
          · exact .inr hlt.1
        · obtain ⟨x, hx, rfl⟩ := look_opnT hl
          obtain ⟨v, hv, hs⟩ := hg.tmps t x hx
          have hc : isCond x = false := hnc _ (look_mem _ _ _ hx)
          have hr : Rep E w ro ι v x := by cases x <;> first | exact hs | cases hc
          refine ⟨v, hv, ?_⟩
          have h2 := all v x hr
          have h3 : isCond (opnV id ds x) = false := opnV_cond.trans hc
          generalize opnV id ds x = y at h2 h3
          cases y <;> first | exact h2 | cases h3
        · obtain ⟨o', ho', rfl⟩ := look_opnOs hl
          have h := hg.objs id' o' ho'
          cases o' with
          | dead => trivial
          | box cs' =>
            show ObjOk E w ro' ι id' (match Nat.beq id' id with | true => .dead | false => .box (cs'.map (opn1 id ds)))
            split
            · trivial
            · rename_i hbq
              have hne : id' ≠ id := fun e => by subst e; simp at hbq
              obtain ⟨gh', g', vs', ty', q1, q2, qb, q3, q4, q5, q6⟩ := h
              refine ⟨gh', g', vs', ty', q1, q2, qb, q3, by simp [q4], fun j v c hv hc => ⟨?_, many vs' cs' (fun j v c hv hc => (q5 j v c hv hc).2) j v c hv hc⟩, fun o hr => ?_, q6.2⟩
              · have hj : j < cs'.length := by have := (List.getElem?_eq_some_iff.1 hc).1; simpa using this
                exact (q5 j v _ hv (List.getElem?_eq_getElem hj)).1
              · rcases hr with hr | ⟨hr, _⟩
                · exact q6.1 o hr
                · exact other id' _ gh' g' ho' rfl q1 qb hne hr
          | tail live =>
            intro hlive
            obtain ⟨gh', xs, q1, q2, q3⟩ := h hlive
            have hne : id' ≠ id := fun e => by subst e; rw [hob] at ho'; cases ho'
            refine ⟨gh', xs, q1, q2, fun g' hb' o ho hr => ?_⟩
            rcases hr with hr | ⟨hr, _⟩
            · exact q3 g' hb' o ho hr
            · exact other id' _ gh' g' ho' hlive q1 hb' hne hr
          | row t l =>
            obtain ⟨gh', xs, q1, hn, hge, hgs, hown, hrow, hnro⟩ := h
            have hne : id' ≠ id := fun e => by subst e; rw [hob] at ho'; cases ho'
            refine ⟨gh', xs, q1, hn, hge, hgs, hown, hrow.mono hro (fun _ _ _ => rfl), fun g' hb' o hr => ?_⟩
            rcases hr with hr | ⟨hr, _⟩
            · exact hnro g' hb' o hr
            · exact other id' _ gh' g' ho' rfl q1 hb' hne hr
        · intro i1 i2 o o' gh1 gh2 k hl hl' l1 l2 e1 e2 b1 b2
          obtain ⟨q, hq, rfl⟩ := look_opnOs hl
          obtain ⟨q', hq', rfl⟩ := look_opnOs hl'
          have lv : ∀ i (q : AObj E), (opnO id ds i q).live = true → q.live = true := by
            intro i q h
            cases q <;> first | exact h | rfl
          exact hg.inj i1 i2 q q' gh1 gh2 k hq hq' (lv _ _ l1) (lv _ _ l2) e1 e2 b1 b2
        · obtain ⟨q, hq, rfl⟩ := look_opnOs hl
          exact hg.ids id' q hq
      · exact same
    · exact same
  · exact same
theorem openS_sound : ∀ (l : List Nat) (S : ASt E) (ro : Nat → Nat → Prop), NoCond S.tmps → Gam E w0 ro0 S a w ι ro → ∃ ro', NoCond (openS l S).tmps ∧ Gam E w0 ro0 (openS l S) a w ι ro' ∧ (openS l S).n = S.n
  | [], S, ro, hnc, hg => ⟨ro, hnc, hg, rfl⟩
  | t :: r, S, ro, hnc, hg => by
    obtain ⟨ro1, h1, h2, h3⟩ := open1_sound t hnc hg
    obtain ⟨ro2, h4, h5, h6⟩ := openS_sound r (open1 t S) ro1 h1 h2
    exact ⟨ro2, h4, h5, h6.trans h3⟩
theorem splitN_sound {R : Type} {k : ASt E → Option R} {rr : R} {t : Nat} {kd : IntKind} {i : Int} (hnc : NoCond S.tmps) (hg : Gam E w0 ro0 S a w ι ro) (hl : look S.tmps t = some (.d (.int kd i))) :
    ∀ (m j : Nat), splitN k S t kd i m j = some rr → ∃ S', NoCond S'.tmps ∧ Gam E w0 ro0 S' a w ι ro ∧ S'.n = S.n ∧ k S' = some rr
  | 0, _, h => by cases h
  | m + 1, j, h => by
    unfold splitN at h
    cases hb : i == (j : Int) with
    | false => rw [hb] at h; exact splitN_sound hnc hg hl m (j + 1) h
    | true =>
      rw [hb] at h
      have e : i = (j : Int) := by simpa using hb
      subst e
      refine ⟨⟨S.n, (t, .d (.int kd (j : Int))) :: S.tmps, S.objs, S.next⟩, fun p hp => ?_, ⟨hg.base, hg.size, fun t' x hl' => ?_, hg.objs, hg.inj, hg.fresh, hg.ids⟩, rfl, h⟩
      · cases hp with
        | head => rfl
        | tail _ hp => exact hnc p hp
      · simp only [look] at hl'
        split at hl'
        · rename_i hb
          have := Nat.eq_of_beq_eq_true hb
          subst this
          cases hl'
          exact hg.tmps _ _ hl
        · exact hg.tmps t' x hl'
theorem splitK_sound {R : Type} {k : ASt E → Option R} {rr : R} : ∀ (l : List (Nat × Nat)) (S : ASt E), NoCond S.tmps → Gam E w0 ro0 S a w ι ro → splitK l S k = some rr → ∃ S', NoCond S'.tmps ∧ Gam E w0 ro0 S' a w ι ro ∧ S'.n = S.n ∧ k S' = some rr
  | [], S, hnc, hg, h => ⟨S, hnc, hg, rfl, h⟩
  | (t, n) :: r, S, hnc, hg, h => by
    unfold splitK at h
    split at h
    · rename_i kd i hl
      obtain ⟨S1, h1, h2, h3, h4⟩ := splitN_sound hnc hg hl n 0 h
      obtain ⟨S2, h5, h6, h7, h8⟩ := splitK_sound r S1 h1 h2 h4
      exact ⟨S2, h5, h6, h7.trans h3, h8⟩
    · cases h
theorem idxN_get : ∀ {l : List Nat} {i j : Nat}, idxN l i = some j → l[j]? = some i
  | [], _, _, h => by cases h
  | x :: r, i, j, h => by
    unfold idxN at h
    split at h
    · rename_i hb
      cases h
      simp [Nat.eq_of_beq_eq_true hb]
    · split at h
      · rename_i q hq
        cases h
        simpa using idxN_get hq
      · cases h
theorem idxN_none : ∀ {l : List Nat} {i : Nat}, idxN l i = none → i ∉ l
  | [], _, _ => by simp
  | x :: r, i, h => by
    unfold idxN at h
    split at h
    · cases h
    · rename_i hb
      split at h
      · cases h
      · rename_i hq
        have := idxN_none hq
        intro hm
        cases hm with
        | head => simp at hb
        | tail _ hm => exact this hm
theorem addN_nodup {l : List Nat} {i : Nat} (h : l.Nodup) : (addN l i).Nodup := by
  unfold addN
  split
  · exact h
  · rename_i hn
    rw [List.nodup_append]
    refine ⟨h, by simp, fun x hx y hy e => ?_⟩
    simp at hy
    subst hy; subst e
    exact idxN_none hn hx
theorem addAll_nodup : ∀ {m l : List Nat}, l.Nodup → (addAll l m).Nodup
  | [], _, h => h
  | _ :: r, _, h => addAll_nodup (m := r) (addN_nodup h)
theorem closA_rep {ι' : Nat → Option Gh} {v : Value} {x : AV E} (hc : closA x = true) (h : Rep E w ro ι v x) : Rep E w ro ι' v x := by
  cases h with
  | d _ c h => exact .d _ c h
  | st vs t x ha h => exact .st vs t x ha h
  | _ => cases hc
theorem ren1_rep {ids : List Nat} {v : Value} {x : AV E} (h : Rep E w ro ι v x) : Rep E w ro (fun j => (ids[j]?).bind ι) v (ren1 ids x) := by
  cases h with
  | any v => exact .any _
  | d _ c h => exact .d _ c h
  | st vs t x ha h => exact .st vs t x ha h
  | agg => exact .any _
  | tup => exact .any _
  | pelt g off f cs h1 h2 => exact .pelt g off f cs h1 h2
  | grow gh t l id h1 h2 h3 h4 h5 =>
    show Rep E w ro _ gh.v (match idxN ids id with | some j => .grow t l j | none => .d (.slice t l))
    cases hj : idxN ids id with
    | some j => exact .grow gh t l j (show (ids[j]?).bind ι = some gh by rw [idxN_get hj]; exact h1) h2 h3 h4 h5
    | none => exact .d _ _ h5
  | ptr gh g id off h1 h2 =>
    show Rep E w ro _ _ (match idxN ids id with | some j => .ptr j off | none => .any)
    cases hj : idxN ids id with
    | some j => exact .ptr gh g j off (show (ids[j]?).bind ι = some gh by rw [idxN_get hj]; exact h1) h2
    | none => exact .any _
  | row gh t id ad cap h1 h2 h3 h4 h5 =>
    show Rep E w ro _ gh.v (match idxN ids id with | some j => .row t gh.n j | none => .any)
    cases hj : idxN ids id with
    | some j => exact .row gh t j ad cap (show (ids[j]?).bind ι = some gh by rw [idxN_get hj]; exact h1) h2 h3 h4 h5
    | none => exact .any _
  | elt gh g id i off cap h1 h2 h3 =>
    show Rep E w ro _ _ (match idxN ids id with | some j => .elt j i off | none => .any)
    cases hj : idxN ids id with
    | some j => exact .elt gh g j i off cap (show (ids[j]?).bind ι = some gh by rw [idxN_get hj]; exact h1) h2 h3
    | none => exact .any _
  | bsl gh g id n cap h1 h2 =>
    show Rep E w ro _ _ (match idxN ids id with | some j => .bsl n j | none => .any)
    cases hj : idxN ids id with
    | some j => exact .bsl gh g j n cap (show (ids[j]?).bind ι = some gh by rw [idxN_get hj]; exact h1) h2
    | none => exact .any _
  | mk gh v g T id h1 h2 h3 h4 =>
    show Rep E w ro _ _ (match idxN ids id with | some j => .mk T j | none => .any)
    cases hj : idxN ids id with
    | some j => exact .mk gh _ g T j (show (ids[j]?).bind ι = some gh by rw [idxN_get hj]; exact h1) h2 h3 h4
    | none => exact .any _
  | sd => exact .any _
  | fn f vs us a b h1 h2 h3 h4 =>
    show Rep E w ro _ _ (bif a.all closA && b.all closA then .fn f a b else .any)
    cases hc : a.all closA && b.all closA with
    | false => exact .any _
    | true =>
      rw [Bool.and_eq_true, List.all_eq_true, List.all_eq_true] at hc
      exact .fn f vs us a b h1 h2 (fun j v c hv hj => closA_rep (hc.1 c (List.mem_of_getElem? hj)) (h3 j v c hv hj)) fun j v c hv hj => closA_rep (hc.2 c (List.mem_of_getElem? hj)) (h4 j v c hv hj)
theorem map_rep {ids : List Nat} {vs : Array Value} {cs : List (AV E)} (h : ∀ (j : Nat) v c, vs[j]? = some v → cs[j]? = some c → Rep E w ro ι v c) : ∀ (j : Nat) v c, vs[j]? = some v → (cs.map (ren1 ids))[j]? = some c → Rep E w ro (fun j => (ids[j]?).bind ι) v c := by
  intro j v c hv hc
  rw [List.getElem?_map] at hc
  cases hx : cs[j]? with
  | none => rw [hx] at hc; cases hc
  | some y =>
    rw [hx] at hc
    cases hc
    exact ren1_rep (h j v y hv hx)
theorem renV_rep {ids : List Nat} {v : Value} {x : AV E} (h : Rep E w ro ι v x) : Rep E w ro (fun j => (ids[j]?).bind ι) v (renV ids x) := by
  have one := ren1_rep (ids := ids) h
  cases h with
  | agg vs cs h1 h2 => exact .agg vs _ (by simp [h1]) (map_rep h2)
  | _ => exact one
theorem plainV_rep {objs : List (Nat × AObj E)} {v : Value} {x : AV E} (h : Rep E w ro ι v x) : Rep E w ro ι v (plainV objs x) := by
  have h0 := h
  cases h with
  | grow gh t l id h1 h2 h3 h4 h5 =>
    show Rep E w ro ι gh.v (match look objs id with | some (.tail true) => .grow t l id | _ => .d (.slice t l))
    split
    · exact h0
    · exact .d _ _ h5
  | _ => exact h0
theorem look_keepT {live : List Nat} {t : Nat} {y : AV E} (h : look (keepT S live) t = some y) : ∃ x, look S.tmps t = some x ∧ y = plainV S.objs x := by
  induction live with
  | nil => cases h
  | cons u r ih =>
    unfold keepT at h
    cases hx : look S.tmps u with
    | some x =>
      rw [hx] at h
      simp only [look] at h
      split at h
      · rename_i hb
        have := Nat.eq_of_beq_eq_true hb
        subst this
        cases h
        exact ⟨x, hx, rfl⟩
      · exact ih h
    | none =>
      rw [hx] at h
      exact ih h
theorem look_renT {ids : List Nat} : ∀ {l : List (Nat × AV E)} {t : Nat} {y : AV E}, look (renT ids l) t = some y → ∃ x, look l t = some x ∧ y = renV ids x
  | [], _, _, h => by cases h
  | (u, x) :: r, t, y, h => by
    simp only [renT, look] at h ⊢
    split at h
    · rename_i hb; rw [if_pos hb]; cases h; exact ⟨x, rfl, rfl⟩
    · rename_i hb; rw [if_neg hb]; exact look_renT h
theorem look_renOs {objs : List (Nat × AObj E)} {ids : List Nat} : ∀ {l : List Nat} {j q : Nat} {o : AObj E}, look (renOs objs ids l j) q = some o → ∃ i, j ≤ q ∧ l[q - j]? = some i ∧ (o = .dead ∨ ∃ o', look objs i = some o' ∧ o = renO ids o')
  | [], _, _, _, h => by cases h
  | i :: r, j, q, o, h => by
    simp only [renOs, look] at h
    split at h
    · rename_i hb
      have := Nat.eq_of_beq_eq_true hb
      subst this
      refine ⟨i, Nat.le_refl _, by simp, ?_⟩
      cases ho : look objs i with
      | none => rw [ho] at h; cases h; exact .inl rfl
      | some o' => rw [ho] at h; cases h; exact .inr ⟨o', rfl, rfl⟩
    · obtain ⟨i', h1, h2, h3⟩ := look_renOs h
      exact ⟨i', by omega, by rw [show q - j = (q - (j + 1)) + 1 from by omega]; simpa using h2, h3⟩
theorem noCond_renT {ids : List Nat} : ∀ (l : List (Nat × AV E)), NoCond (renT ids l)
  | [] => fun p h => by cases h
  | (t, x) :: r => fun p h => by
    cases h with
    | tail _ h => exact noCond_renT r p h
    | head =>
      simp only
      cases x with
      | cond => rfl
      | agg => rfl
      | any => rfl
      | d => rfl
      | st => rfl
      | tup => rfl
      | pelt => rfl
      | grow t l id => simp only [renV, ren1]; split <;> rfl
      | ptr id off => simp only [renV, ren1]; split <;> rfl
      | row t n id => simp only [renV, ren1]; split <;> rfl
      | elt id i off => simp only [renV, ren1]; split <;> rfl
      | bsl n id => simp only [renV, ren1]; split <;> rfl
      | mk T id => simp only [renV, ren1]; split <;> rfl
      | sd => rfl
      | fn f a b => simp only [renV, ren1]; cases a.all closA && b.all closA <;> rfl
theorem ren_sound (ids : List Nat) (hnd : ids.Nodup) (kept : List (Nat × AV E)) (hkept : ∀ t y, look kept t = some y → ∃ z, look S.tmps t = some z ∧ y = plainV S.objs z) (hio : w0.k = none) (hnc : NoCond S.tmps) (hg : Gam E w0 ro0 S a w ι ro) :
    NoCond (renT ids kept) ∧ Gam E w0 ro0 ⟨S.n, renT ids kept, renOs S.objs ids ids 0, ids.length⟩ a w (fun j => (ids[j]?).bind ι) ro := by
  refine ⟨noCond_renT _, ⟨hg.base.below, hg.base.rolt, hg.base.ronew, fun id gh k h1 h2 => ?_, hg.base.defers, (fun q hq => by rw [hio] at hq; cases hq), fun k o h => ⟨(hg.base.held k o h).1, fun id gh h1 h2 => by cases hj : ids[id]? with | none => (simp only [hj] at h1; cases h1) | some i => (simp only [hj] at h1; exact (hg.base.held k o h).2 i gh h1 h2)⟩⟩, hg.size, fun t y hl => ?_, fun id o hl => ?_, ?_, fun id h => ?_, fun id o hl => ?_⟩
  · cases hj : ids[id]? with
    | none => simp only [hj] at h1; cases h1
    | some i => simp only [hj] at h1; exact hg.base.ilt i gh k h1 h2
  · obtain ⟨x, hx, rfl⟩ := look_renT hl
    obtain ⟨z, hz, rfl⟩ := hkept _ _ hx
    obtain ⟨v, hv, hs⟩ := hg.tmps t z hz
    have hc : isCond z = false := hnc _ (look_mem _ _ _ hz)
    have hr : Rep E w ro ι v z := by cases z <;> first | exact hs | cases hc
    refine ⟨v, hv, ?_⟩
    have h2 := renV_rep (ids := ids) (plainV_rep (objs := S.objs) hr)
    have h3 : isCond (renV ids (plainV S.objs z)) = false := by
      have := noCond_renT (ids := ids) [(0, plainV S.objs z)]
      exact this (0, renV ids (plainV S.objs z)) List.mem_cons_self
    show SRep E w ro _ a.tmps v (renV ids (plainV S.objs z))
    generalize renV ids (plainV S.objs z) = y at h2 h3
    cases y <;> first | exact h2 | cases h3
  · obtain ⟨i, _, hi, h⟩ := look_renOs hl
    simp only [Nat.sub_zero] at hi
    rcases h with rfl | ⟨o', ho', rfl⟩
    · trivial
    · have h := hg.objs i o' ho'
      have hi' : (fun j => (ids[j]?).bind ι) id = ι i := by
        show (ids[id]?).bind ι = ι i
        rw [hi]; rfl
      cases o' with
      | dead => trivial
      | tail l =>
        intro hl
        obtain ⟨gh, xs, h1, h2, h3⟩ := h hl
        exact ⟨gh, xs, hi'.trans h1, h2, h3⟩
      | row t l =>
        obtain ⟨gh, xs, h1, h2⟩ := h
        exact ⟨gh, xs, hi'.trans h1, h2⟩
      | box cs =>
        obtain ⟨gh, g, vs, ty, h1, h2, hb, h3, h4, h5, h6⟩ := h
        exact ⟨gh, g, vs, ty, hi'.trans h1, h2, hb, h3, by simp [h4], fun j v c hv hc => ⟨by
          have hj : j < cs.length := by have := (List.getElem?_eq_some_iff.1 hc).1; simpa using this
          exact (h5 j v _ hv (List.getElem?_eq_getElem hj)).1, map_rep (fun j v c hv hc => (h5 j v c hv hc).2) j v c hv hc⟩, h6⟩
  · intro id id' o o' gh gh' k hl hl' l1 l2 i1 i2 b1 b2
    obtain ⟨i, _, hi, h⟩ := look_renOs hl
    obtain ⟨i', _, hi', h'⟩ := look_renOs hl'
    simp only [Nat.sub_zero] at hi hi'
    rcases h with rfl | ⟨q, hq, rfl⟩
    · cases l1
    rcases h' with rfl | ⟨q', hq', rfl⟩
    · cases l2
    have e1 : q.live = true := by cases q <;> exact l1
    have e2 : q'.live = true := by cases q' <;> exact l2
    simp only at i1 i2
    have i1' : (ids[id]?).bind ι = some gh := i1
    have i2' : (ids[id']?).bind ι = some gh' := i2
    rw [show ids[id]? = some i from hi] at i1'
    rw [show ids[id']? = some i' from hi'] at i2'
    have := hg.inj i i' q q' gh gh' k hq hq' e1 e2 i1' i2' b1 b2
    subst this
    have hlt := (List.getElem?_eq_some_iff.1 hi).1
    have hlt' := (List.getElem?_eq_some_iff.1 hi').1
    exact (List.getElem?_inj hlt hnd).1 (hi.trans hi'.symm)
  · have h' : ids.length ≤ id := h
    show (ids[id]?).bind ι = none
    rw [List.getElem?_eq_none h']
    rfl
  · obtain ⟨i, _, hi, _⟩ := look_renOs hl
    simp only [Nat.sub_zero] at hi
    exact (List.getElem?_eq_some_iff.1 hi).1
theorem headS_sound (live : List Nat) (hio : w0.k = none) (hnc : NoCond S.tmps) (hg : Gam E w0 ro0 S a w ι ro) : ∃ ι', NoCond (headS live S).tmps ∧ Gam E w0 ro0 (headS live S) a w ι' ro :=
  ⟨_, ren_sound _ (addAll_nodup (addAll_nodup List.nodup_nil)) (keepT S live) (fun _ _ h => look_keepT h) hio hnc hg⟩
end
section
variable {P : Program} {E : Env P} {O : Oracle E} {w0 : Start} {ro0 : Nat → Nat → Prop}
theorem evRegL_sound {R : Type} (hO : OracleOk E O) (hmix : P.follows .mixedOrders = true) {S : ASt E} {a : Act} {w : World} {ι : Nat → Option Gh} {ro : Nat → Nat → Prop} (hnc : NoCond S.tmps) (hg : Gam E w0 ro0 S a w ι ro) {k : ASt E → Option R} {rr : R} {Q : Exit → Act → World → Prop} {b dr : Bool} {ops : Array Oper} {id : Nat}
    (hk : ∀ S' a' w' ι' ro', NoCond S'.tmps → Gam E w0 ro0 S' a' w' ι' ro' → S'.n = S.n → k S' = some rr → Q .normal a' w') (h : evRegL b O ops dr S k = some rr) : (Code.region id ops dr).wp P Q a w := by
  have old : evReg O ops dr S k = some rr → (Code.region id ops dr).wp P Q a w := fun h => by
    cases dr with
    | true => exact evDraw_sound (n := S.n) (glob := S.tmps) (objs := S.objs) (next := S.next) hO hmix hnc hg hk h
    | false => exact wp_region_list (evSeq_sound (n := S.n) (glob := S.tmps) hO hnc hk ops.toList [] S.objs S.next a w ι ro hg h)
  unfold evRegL at h
  split at h
  · exact evLast_sound hO hmix hnc hg hk h
  · exact old h
end
end Go.Proofs.YtinangndhcbjbaaDoor.Mir
namespace Go.Proofs.YtinangndhcbjbaaDoor.Mir
open Go Go.RowKit
section
variable {P : Program} {E : Env P}
def valA (S : ASt E) (r : ResultVar) : Option (AV E) := match r with
  | .tmp q => some (slotA [] (look S.tmps q))
  | .cell q ty => evLoad S.objs ty (slotA [] (look S.tmps q))
def resA (S : ASt E) : List ResultVar → List TypeId → Option (List (TV E))
  | [], [] => some []
  | r :: rs, T :: Ts => match E.code T with
    | some t => match valA S r with
      | some v => match foldA t v with
        | some x => match resA S rs Ts with
          | some xs => some (⟨t, x⟩ :: xs)
          | none => none
        | none => none
      | none => none
    | none => none
  | _, _ => none
def argsT : List (TV E) → Nat → List (Nat × AV E)
  | [], _ => []
  | ⟨t, x⟩ :: r, i => (i, expandA t x) :: argsT r (i + 1)
def startS (fn : Func) (args : List (TV E)) : ASt E := ⟨args.length + (fn.ntmps - args.length), argsT args 0, [], 0⟩
def endK (fn : Func) (e : AExit) (S : ASt E) : Option (List (TV E)) := match e with
  | .exit _ => none
  | .goto _ => none
  | _ => resA (freezeS S) fn.results.toList fn.resultTypes.toList
def runE (O : Oracle E) (h : Hint E) (G : Nat → ASt E → Option (List (TV E))) (fn : Func) (args : List (TV E)) : Option (List (TV E)) := match fn.body with
  | some c => evCode O h G 0 c (startS fn args) (endK fn)
  | none => none
def runL (O : Oracle E) (h : Hint E) (G : Nat → ASt E → Option (List (TV E))) (fn : Func) (j : Nat) (S : ASt E) : Option (List (TV E)) := match fn.body with
  | some c => segC O h G c j S (endK fn)
  | none => none
end
section
variable {P : Program}
def LoopWp (P : Program) (c : Code) (Q : Exit → Act → World → Prop) (a : Act) (w : World) : Prop :=
  ∀ b k cs, ∃ e a' w', Q e a' w' ∧ Arrives P (lone (b.at a (.code c :: .inLoop c :: k)) cs w) b k cs e a' w'
theorem LoopWp.wp {c : Code} {Q : Exit → Act → World → Prop} {a : Act} {w : World} (h : LoopWp P c Q a w) : (Code.loop c).wp P Q a w := by
  intro b k cs
  obtain ⟨e, a', w', hq, harr⟩ := h b k cs
  exact ⟨e, a', w', hq, .of_steps (.one step_loop) harr⟩
theorem LoopWp.round {c : Code} {Q : Exit → Act → World → Prop} {a : Act} {w : World} (h : c.wp P (Exit.then (LoopWp P c Q) Q) a w) : LoopWp P c Q a w := by
  intro b k cs
  obtain ⟨e, a₁, w₁, hq, harr⟩ := h b (.inLoop c :: k) cs
  cases e with
  | normal =>
    obtain ⟨e₂, a₂, w₂, hq₂, harr₂⟩ := hq b k cs
    exact ⟨e₂, a₂, w₂, hq₂, .of_steps (Steps.trans harr (.one step_inLoop)) harr₂⟩
  | exit id => exact ⟨_, a₁, w₁, hq, .pass (x := .inLoop c) rfl (fun _ _ => .inl (by simp)) harr⟩
  | goto l => exact ⟨_, a₁, w₁, hq, .pass (x := .inLoop c) rfl (fun _ _ => .inl (by simp)) harr⟩
  | ret => exact ⟨_, a₁, w₁, hq, .pass (x := .inLoop c) rfl (fun _ _ => .inl (by simp)) harr⟩
  | panic ch => exact ⟨_, a₁, w₁, hq, .pass (x := .inLoop c) rfl (fun _ _ => .inl (by simp)) harr⟩
  | outgrown => exact ⟨_, a₁, w₁, hq, .pass (x := .inLoop c) rfl (fun _ _ => .inl (by simp)) harr⟩
def JumpWp (P : Program) (c rest : Code) (Q : Exit → Act → World → Prop) (a : Act) (w : World) : Prop :=
  ∀ b k cs, ∃ e a' w', Q e a' w' ∧ Arrives P (lone (b.at a (.code rest :: .inScope c :: k)) cs w) b k cs e a' w'
def scPost (P : Program) (c : Code) (Q : Exit → Act → World → Prop) : Exit → Act → World → Prop
  | .goto l, a, w => ∃ rest, findLabel c l = some rest ∧ JumpWp P c rest Q a w
  | e, a, w => Q e a w
theorem JumpWp.of {c rest : Code} {Q : Exit → Act → World → Prop} {a : Act} {w : World} (h : rest.wp P (scPost P c Q) a w) : JumpWp P c rest Q a w := by
  intro b k cs
  obtain ⟨e, a₁, w₁, hq, harr⟩ := h b (.inScope c :: k) cs
  cases e with
  | normal => exact ⟨.normal, a₁, w₁, hq, Steps.trans harr (.one step_inScope)⟩
  | exit id => exact ⟨.exit id, a₁, w₁, hq, fun k' hk => harr k' (by simp [exitTo, hk])⟩
  | goto l' =>
    obtain ⟨rest', hf, hJ⟩ := hq
    have hg : gotoIn l' (.inScope c :: k) = some (.code rest' :: .inScope c :: k) := by simp [gotoIn, hf]
    obtain ⟨e₂, a₂, w₂, hq₂, harr₂⟩ := hJ b k cs
    exact ⟨e₂, a₂, w₂, hq₂, .of_steps (harr _ hg) harr₂⟩
  | ret => exact ⟨_, a₁, w₁, hq, harr⟩
  | panic ch => exact ⟨_, a₁, w₁, hq, harr⟩
  | outgrown => exact ⟨_, a₁, w₁, hq, harr⟩
theorem wp_scopeJ {c : Code} {Q : Exit → Act → World → Prop} {a : Act} {w : World} (h : c.wp P (scPost P c Q) a w) : (Code.scope c).wp P Q a w := by
  intro b k cs
  obtain ⟨e, a₁, w₁, hq, harr⟩ := h b (.inScope c :: k) cs
  cases e with
  | normal => exact ⟨.normal, a₁, w₁, hq, .head step_scope (Steps.trans harr (.one step_inScope))⟩
  | exit id => exact ⟨.exit id, a₁, w₁, hq, fun k' hk => .head step_scope (harr k' (by simp [exitTo, hk]))⟩
  | goto l' =>
    obtain ⟨rest', hf, hJ⟩ := hq
    have hg : gotoIn l' (.inScope c :: k) = some (.code rest' :: .inScope c :: k) := by simp [gotoIn, hf]
    obtain ⟨e₂, a₂, w₂, hq₂, harr₂⟩ := hJ b k cs
    exact ⟨e₂, a₂, w₂, hq₂, .of_steps (.head step_scope (harr _ hg)) harr₂⟩
  | ret => exact ⟨_, a₁, w₁, hq, .of_steps (.one step_scope) harr⟩
  | panic ch => exact ⟨_, a₁, w₁, hq, .of_steps (.one step_scope) harr⟩
  | outgrown => exact ⟨_, a₁, w₁, hq, .of_steps (.one step_scope) harr⟩
def scopeAt (P : Program) : Code → (Exit → Act → World → Prop) → Option (Code × (Exit → Act → World → Prop))
  | .scope c, Q => some (c, Q)
  | .seq x y, Q => (match hasScope x with
    | true => scopeAt P x (Exit.then (y.wp P Q) Q)
    | false => scopeAt P y Q)
  | .block id b, Q => scopeAt P b (Exit.inBlock id Q)
  | _, _ => none
def contAt (P : Program) : Code → Nat → (Exit → Act → World → Prop) → Option (Code × (Exit → Act → World → Prop))
  | .loop b, 0, Q => some (b, Q)
  | .loop b, j + 1, Q => contAt P b j (Exit.then (LoopWp P b Q) Q)
  | .seq x y, j, Q => match Nat.blt j (nloops x) with
    | true => contAt P x j (Exit.then (y.wp P Q) Q)
    | false => contAt P y (j - nloops x) Q
  | .cond _ x y, j, Q => match Nat.blt j (nloops x) with
    | true => contAt P x j Q
    | false => contAt P y (j - nloops x) Q
  | .block id b, j, Q => contAt P b j (Exit.inBlock id Q)
  | _, _, _ => none
def Placed (P : Program) (c0 : Code) (Q0 : Exit → Act → World → Prop) (i : Nat) (c : Code) (Q : Exit → Act → World → Prop) : Prop :=
  ∀ j, j < nloops c → contAt P c0 (i + j) Q0 = contAt P c j Q
theorem blt_true {a b : Nat} (h : a < b) : Nat.blt a b = true := by simpa [Nat.blt_eq] using h
theorem blt_false {a b : Nat} (h : b ≤ a) : Nat.blt a b = false := by
  cases hb : Nat.blt a b with
  | false => rfl
  | true => rw [Nat.blt_eq] at hb; omega
section
variable {c0 : Code} {Q0 Q : Exit → Act → World → Prop} {i : Nat}
theorem Placed.seq {x y : Code} (h : Placed P c0 Q0 i (.seq x y) Q) : Placed P c0 Q0 i x (Exit.then (y.wp P Q) Q) ∧ Placed P c0 Q0 (i + nloops x) y Q := by
  refine ⟨fun j hj => ?_, fun j hj => ?_⟩
  · rw [h j (by show j < nloops x + nloops y; omega)]
    simp only [contAt, blt_true hj]
  · rw [Nat.add_assoc, h (nloops x + j) (by show nloops x + j < nloops x + nloops y; omega)]
    simp only [contAt, blt_false (show nloops x ≤ nloops x + j by omega), Nat.add_sub_cancel_left]
theorem Placed.cond {c : Operand} {x y : Code} (h : Placed P c0 Q0 i (.cond c x y) Q) : Placed P c0 Q0 i x Q ∧ Placed P c0 Q0 (i + nloops x) y Q := by
  refine ⟨fun j hj => ?_, fun j hj => ?_⟩
  · rw [h j (by show j < nloops x + nloops y; omega)]
    simp only [contAt, blt_true hj]
  · rw [Nat.add_assoc, h (nloops x + j) (by show nloops x + j < nloops x + nloops y; omega)]
    simp only [contAt, blt_false (show nloops x ≤ nloops x + j by omega), Nat.add_sub_cancel_left]
theorem Placed.block {id : Nat} {b : Code} (h : Placed P c0 Q0 i (.block id b) Q) : Placed P c0 Q0 i b (Exit.inBlock id Q) := fun j hj => h j hj
theorem Placed.head {b : Code} (h : Placed P c0 Q0 i (.loop b) Q) : contAt P c0 i Q0 = some (b, Q) := h 0 (by show 0 < nloops b + 1; omega)
theorem Placed.inner {b : Code} (h : Placed P c0 Q0 i (.loop b) Q) : Placed P c0 Q0 (i + 1) b (Exit.then (LoopWp P b Q) Q) := fun j hj => by
  rw [Nat.add_assoc, Nat.add_comm 1 j]
  exact h (j + 1) (by show j + 1 < nloops b + 1; omega)
theorem Placed.of_zero {c : Code} (h : nloops c = 0) : Placed P c0 Q0 i c Q := fun j hj => by omega
theorem Placed.whole : Placed P c0 Q0 0 c0 Q0 := fun j _ => by rw [Nat.zero_add]
end
end
section
variable {P : Program} {E : Env P} {O : Oracle E} {h : Hint E} {w0 : Start} {ro0 : Nat → Nat → Prop} {n : Nat} {c0 : Code} {Q0 : Exit → Act → World → Prop}
def HeadOk (E : Env P) (w0 : Start) (ro0 : Nat → Nat → Prop) (n : Nat) (c0 : Code) (Q0 : Exit → Act → World → Prop) (i : Nat) (S : ASt E) : Prop :=
  ∀ b Q, contAt P c0 i Q0 = some (b, Q) → ∀ a w ι ro, NoCond S.tmps → Gam E w0 ro0 S a w ι ro → S.n = n → LoopWp P b Q a w
def LabOk (E : Env P) (w0 : Start) (ro0 : Nat → Nat → Prop) (n : Nat) (c0 : Code) (Q0 : Exit → Act → World → Prop) (i : Nat) (S : ASt E) : Prop :=
  ∀ l, i = 100 + l → ∀ sc Q rest, scopeAt P c0 Q0 = some (sc, Q) → findLabel sc l = some rest → ∀ a w ι ro, NoCond S.tmps → Gam E w0 ro0 S a w ι ro → S.n = n → rest.wp P (scPost P sc Q) a w
def HdOk (E : Env P) (w0 : Start) (ro0 : Nat → Nat → Prop) (n : Nat) (c0 : Code) (Q0 : Exit → Act → World → Prop) (i : Nat) (S : ASt E) : Prop := HeadOk E w0 ro0 n c0 Q0 i S ∧ LabOk E w0 ro0 n c0 Q0 i S
theorem contAt_none : ∀ (c : Code) (j : Nat) (Q : Exit → Act → World → Prop), nloops c ≤ j → contAt P c j Q = none
  | .loop b, 0, Q, h => by simp [nloops] at h
  | .loop b, j + 1, Q, h => contAt_none b j _ (by simp only [nloops] at h; omega)
  | .seq x y, j, Q, h => by
    simp only [nloops] at h
    simp only [contAt, blt_false (show nloops x ≤ j by omega)]
    exact contAt_none y _ Q (by omega)
  | .cond _ x y, j, Q, h => by
    simp only [nloops] at h
    simp only [contAt, blt_false (show nloops x ≤ j by omega)]
    exact contAt_none y _ Q (by omega)
  | .block id b, j, Q, h => contAt_none b j _ (by simpa only [nloops] using h)
  | .skip, _, _, _ => rfl
  | .ret, _, _, _ => rfl
  | .exit _, _, _, _ => rfl
  | .region .., _, _, _ => rfl
  | .scope _, _, _, _ => rfl
  | .label _, _, _, _ => rfl
  | .goto _, _, _, _ => rfl
  | .rangeFunc .., _, _, _ => rfl
  | .refuse _, _, _, _ => rfl
theorem headAt_sound (hh : Hint E) (i : Nat) (hio : w0.k = none) {S : ASt E} {a : Act} {w : World} {ι : Nat → Option Gh} {ro : Nat → Nat → Prop} (hnc : NoCond S.tmps) (hg : Gam E w0 ro0 S a w ι ro) (hn : S.n = n) :
    ∃ ι', NoCond (headAt hh i S).tmps ∧ Gam E w0 ro0 (headAt hh i S) a w ι' ro ∧ (headAt hh i S).n = n := by
  obtain ⟨ι1, hnc1, hg1, hn1⟩ := nilS_sound (atN hh.nils i) S ι hnc hg
  obtain ⟨ι', hnc', hg'⟩ := headS_sound (atN hh.live i) hio hnc1 hg1
  exact ⟨ι', hnc', hg', hn1.trans hn⟩
theorem evCode_sound {R : Type} (hO : OracleOk E O) (hmix : P.follows .mixedOrders = true) {G : Nat → ASt E → Option R} {rr : R} (hG : ∀ i S, G i S = some rr → w0.k = none ∧ HdOk E w0 ro0 n c0 Q0 i S) :
    ∀ (c : Code) (i : Nat) (S : ASt E) (k : AExit → ASt E → Option R) (Q : Exit → Act → World → Prop) (a : Act) (w : World) (ι : Nat → Option Gh) (ro : Nat → Nat → Prop), Placed P c0 Q0 i c Q → (hasScope c = true → scopeAt P c Q = scopeAt P c0 Q0) →
    NoCond S.tmps → Gam E w0 ro0 S a w ι ro → S.n = n → evCode O h G i c S k = some rr →
    (∀ e S' a' w' ι' ro', NoCond S'.tmps → Gam E w0 ro0 S' a' w' ι' ro' → S'.n = n → k e S' = some rr → Q e.toExit a' w') → c.wp P Q a w := by
  intro c
  induction c with
  | skip => intro i S k Q a w ι ro _ _ hnc hg hn h hk; exact wp_skip (hk .normal S a w ι ro hnc hg hn h)
  | ret => intro i S k Q a w ι ro _ _ hnc hg hn h hk; exact wp_ret (hk .ret S a w ι ro hnc hg hn h)
  | exit id => intro i S k Q a w ι ro _ _ hnc hg hn h hk; exact wp_exit (hk (.exit id) S a w ι ro hnc hg hn h)
  | region id ops draw =>
    intro i S k Q a w ι ro _ _ hnc hg hn hh hk
    have go : ∀ (S : ASt E) (ro : Nat → Nat → Prop), NoCond S.tmps → Gam E w0 ro0 S a w ι ro → S.n = n → evRegL (memN h.lst id) O ops draw S (k .normal) = some rr → (Code.region id ops draw).wp P Q a w := fun S ro hnc hg hn hq =>
      evRegL_sound hO hmix hnc hg (fun S' a' w' ι' ro' h1 h2 h3 h4 => hk .normal S' a' w' ι' ro' h1 h2 (h3.trans hn) h4) hq
    simp only [evCode] at hh
    have fin : ∀ (l1 : List (Nat × Nat)) (l2 : List Nat) (S : ASt E) (ro : Nat → Nat → Prop), NoCond S.tmps → Gam E w0 ro0 S a w ι ro → S.n = n → splitK l1 (openS l2 S) (fun S' => evRegL (memN h.lst id) O ops draw S' (k .normal)) = some rr → (Code.region id ops draw).wp P Q a w := by
      intro l1 l2 S ro hnc hg hn h
      obtain ⟨ro1, g1, g2, g3⟩ := openS_sound l2 S ro hnc hg
      obtain ⟨S2, g4, g5, g6, g7⟩ := splitK_sound _ _ g1 g2 h
      exact go S2 ro1 g4 g5 (g6.trans (g3.trans hn)) g7
    split at hh
    · obtain ⟨h1, h2⟩ := freezeS_sound hnc hg
      exact fin _ _ (freezeS S) _ h1 h2 hn hh
    · exact fin _ _ S ro hnc hg hn hh
  | seq x y ihx ihy =>
    intro i S k Q a w ι ro hp hs hnc hg hn h hk
    simp only [evCode] at h
    split at h
    · cases h
    · rename_i hxy
      have sx : hasScope x = true → scopeAt P x (Exit.then (y.wp P Q) Q) = scopeAt P c0 Q0 := fun hx => by
        rw [← hs (by simp only [hasScope, hx, Bool.true_or])]
        simp only [scopeAt, hx]
      have sy : hasScope y = true → scopeAt P y Q = scopeAt P c0 Q0 := fun hy => by
        have hx : hasScope x = false := by
          cases hq : hasScope x with
          | false => rfl
          | true => rw [hq, hy] at hxy; cases hxy
        rw [← hs (by simp only [hasScope, hy, Bool.or_true])]
        simp only [scopeAt, hx]
      refine wp_seq (ihx i S _ _ a w ι ro hp.seq.1 sx hnc hg hn h fun e S' a' w' ι' ro' h1 h2 h3 h4 => ?_)
      cases e with
      | normal => exact ihy _ S' k Q a' w' ι' ro' hp.seq.2 sy h1 h2 h3 h4 hk
      | exit id => exact hk (.exit id) S' a' w' ι' ro' h1 h2 h3 h4
      | ret => exact hk .ret S' a' w' ι' ro' h1 h2 h3 h4
      | goto l => exact hk (.goto l) S' a' w' ι' ro' h1 h2 h3 h4
  | cond c x y ihx ihy =>
    intro i S k Q a w ι ro hp _ hnc hg hn h hk
    have hc := getA_rep (E := E) (asm := []) hg.tmps (fun j b hb => by simp [hasAsm] at hb) c
    simp only [evCode] at h
    split at h
    · cases h
    · rename_i hxy
      rw [Bool.or_eq_false_iff] at hxy
      split at h
      · rename_i b hb
        rw [hb] at hc
        have hc := hc.bool_inv
        cases b with
        | true => exact wp_cond_true hc (ihx i S k Q a w ι ro hp.cond.1 (fun e => by rw [hxy.1] at e; cases e) hnc hg hn h hk)
        | false => exact wp_cond_false hc (ihy _ S k Q a w ι ro hp.cond.2 (fun e => by rw [hxy.2] at e; cases e) hnc hg hn h hk)
      · cases h
  | block id body ih =>
    intro i S k Q a w ι ro hp hs hnc hg hn h hk
    refine wp_block (ih i S _ _ a w ι ro hp.block hs hnc hg hn h fun e S' a' w' ι' ro' h1 h2 h3 h4 => ?_)
    cases e with
    | goto l => exact hk (.goto l) S' a' w' ι' ro' h1 h2 h3 h4
    | normal => exact hk .normal S' a' w' ι' ro' h1 h2 h3 h4
    | ret => exact hk .ret S' a' w' ι' ro' h1 h2 h3 h4
    | exit i =>
      simp only [AExit.toExit, Exit.inBlock, blockK] at h4 ⊢
      cases hb : Nat.beq i id with
      | true =>
        rw [hb] at h4
        rw [if_pos (Nat.eq_of_beq_eq_true hb)]
        exact hk .normal S' a' w' ι' ro' h1 h2 h3 h4
      | false =>
        rw [hb] at h4
        rw [if_neg (fun e => by subst e; simp at hb)]
        exact hk (.exit i) S' a' w' ι' ro' h1 h2 h3 h4
  | loop body ih =>
    intro i S k Q a w ι ro hp _ hnc hg hn hh hk
    obtain ⟨ι', h1, h2, h3⟩ := headAt_sound h i (hG i _ hh).1 hnc hg hn
    exact ((hG i _ hh).2.1 body Q hp.head a w ι' ro h1 h2 h3).wp
  | label l => intro i S k Q a w ι ro _ _ hnc hg hn h hk; exact wp_label (hk .normal S a w ι ro hnc hg hn h)
  | goto l => intro i S k Q a w ι ro _ _ hnc hg hn h hk; exact wp_goto (hk (.goto l) S a w ι ro hnc hg hn h)
  | scope c ih =>
    intro i S k Q a w ι ro hp hs hnc hg hn hh hk
    simp only [evCode] at hh
    split at hh
    · rename_i hns hz
      refine wp_scopeJ (ih i S _ _ a w ι ro (Placed.of_zero hz) (fun e => by rw [hns] at e; cases e) hnc hg hn hh fun e S' a' w' ι' ro' h1 h2 h3 h4 => ?_)
      cases e with
      | normal => exact hk .normal S' a' w' ι' ro' h1 h2 h3 h4
      | exit id => exact hk (.exit id) S' a' w' ι' ro' h1 h2 h3 h4
      | ret => exact hk .ret S' a' w' ι' ro' h1 h2 h3 h4
      | goto l =>
        simp only [scopeK] at h4
        split at h4
        · rename_i rest hf
          obtain ⟨ι2, g1, g2, g3⟩ := headAt_sound h (100 + l) (hG _ _ h4).1 h1 h2 h3
          exact ⟨rest, hf, JumpWp.of ((hG _ _ h4).2.2 l rfl c Q rest (hs rfl).symm hf a' w' ι2 ro' g1 g2 g3)⟩
        · cases h4
    · cases hh
  | _ => intro i S k Q a w ι ro _ _ hnc hg hn h hk; cases h
theorem ctxK_sound {R : Type} (hO : OracleOk E O) (hmix : P.follows .mixedOrders = true) {G : Nat → ASt E → Option R} {rr : R} (hG : ∀ i S, G i S = some rr → w0.k = none ∧ HdOk E w0 ro0 n c0 Q0 i S) :
    ∀ (c : Code) (i j : Nat) (k : AExit → ASt E → Option R) (Q : Exit → Act → World → Prop) (i' : Nat) (b : Code) (k' : AExit → ASt E → Option R), Placed P c0 Q0 i c Q → hasScope c = false → ctxK O h G i c j k = some (i', b, k') →
    (∀ e S' a' w' ι' ro', NoCond S'.tmps → Gam E w0 ro0 S' a' w' ι' ro' → S'.n = n → k e S' = some rr → Q e.toExit a' w') →
    i' = i + j ∧ hasScope b = false ∧ ∃ Q', Placed P c0 Q0 i' (.loop b) Q' ∧ ∀ e S' a' w' ι' ro', NoCond S'.tmps → Gam E w0 ro0 S' a' w' ι' ro' → S'.n = n → k' e S' = some rr → Q' e.toExit a' w' := by
  intro c
  induction c with
  | seq x y ihx ihy =>
    intro i j k Q i' b k' hp hns hc hk
    simp only [ctxK] at hc
    split at hc
    · rename_i hj
      refine ihx i j _ _ i' b k' hp.seq.1 (Bool.or_eq_false_iff.1 hns).1 hc fun e S' a' w' ι' ro' h1 h2 h3 h4 => ?_
      cases e with
      | normal => exact evCode_sound hO hmix hG y _ S' k Q a' w' ι' ro' hp.seq.2 (fun e => by rw [(Bool.or_eq_false_iff.1 hns).2] at e; cases e) h1 h2 h3 h4 hk
      | goto l => exact hk (.goto l) S' a' w' ι' ro' h1 h2 h3 h4
      | exit id => exact hk (.exit id) S' a' w' ι' ro' h1 h2 h3 h4
      | ret => exact hk .ret S' a' w' ι' ro' h1 h2 h3 h4
    · rename_i hj
      have hle : nloops x ≤ j := by
        rcases Nat.lt_or_ge j (nloops x) with h | h
        · rw [blt_true h] at hj; cases hj
        · exact h
      obtain ⟨e1, rest⟩ := ihy _ _ k Q i' b k' hp.seq.2 (Bool.or_eq_false_iff.1 hns).2 hc hk
      exact ⟨by omega, rest⟩
  | cond c x y ihx ihy =>
    intro i j k Q i' b k' hp hns hc hk
    simp only [ctxK] at hc
    split at hc
    · exact ihx i j k Q i' b k' hp.cond.1 (Bool.or_eq_false_iff.1 hns).1 hc hk
    · rename_i hj
      have hle : nloops x ≤ j := by
        rcases Nat.lt_or_ge j (nloops x) with h | h
        · rw [blt_true h] at hj; cases hj
        · exact h
      obtain ⟨e1, rest⟩ := ihy _ _ k Q i' b k' hp.cond.2 (Bool.or_eq_false_iff.1 hns).2 hc hk
      exact ⟨by omega, rest⟩
  | block id body ih =>
    intro i j k Q i' b k' hp hns hc hk
    refine ih i j _ _ i' b k' hp.block hns hc fun e S' a' w' ι' ro' h1 h2 h3 h4 => ?_
    cases e with
    | goto l => exact hk (.goto l) S' a' w' ι' ro' h1 h2 h3 h4
    | normal => exact hk .normal S' a' w' ι' ro' h1 h2 h3 h4
    | ret => exact hk .ret S' a' w' ι' ro' h1 h2 h3 h4
    | exit i =>
      simp only [AExit.toExit, Exit.inBlock, blockK] at h4 ⊢
      cases hb : Nat.beq i id with
      | true =>
        rw [hb] at h4
        rw [if_pos (Nat.eq_of_beq_eq_true hb)]
        exact hk .normal S' a' w' ι' ro' h1 h2 h3 h4
      | false =>
        rw [hb] at h4
        rw [if_neg (fun e => by subst e; simp at hb)]
        exact hk (.exit i) S' a' w' ι' ro' h1 h2 h3 h4
  | loop body ih =>
    intro i j k Q i' b k' hp hns hc hk
    cases j with
    | zero =>
      cases hc
      exact ⟨rfl, hns, Q, hp, hk⟩
    | succ j =>
      obtain ⟨e1, rest⟩ := ih (i + 1) j _ _ i' b k' hp.inner hns hc fun e S' a' w' ι' ro' h1 h2 h3 h4 => (by
        cases e with
        | normal =>
          obtain ⟨ι2, g1, g2, g3⟩ := headAt_sound h i (hG i _ h4).1 h1 h2 h3
          exact (hG i _ h4).2.1 body Q hp.head a' w' ι2 ro' g1 g2 g3
        | exit id => exact hk (.exit id) S' a' w' ι' ro' h1 h2 h3 h4
        | goto l => exact hk (.goto l) S' a' w' ι' ro' h1 h2 h3 h4
        | ret => exact hk .ret S' a' w' ι' ro' h1 h2 h3 h4)
      exact ⟨by omega, rest⟩
  | _ => intro i j k Q i' b k' hp hns hc hk; cases hc
theorem ctxS_sound {R : Type} (hO : OracleOk E O) (hmix : P.follows .mixedOrders = true) {G : Nat → ASt E → Option R} {rr : R} (hG : ∀ i S, G i S = some rr → w0.k = none ∧ HdOk E w0 ro0 n c0 Q0 i S) :
    ∀ (c : Code) (i : Nat) (k : AExit → ASt E → Option R) (Q : Exit → Act → World → Prop) (sc : Code) (k' : AExit → ASt E → Option R), Placed P c0 Q0 i c Q → ctxS O h G i c k = some (sc, k') →
    (∀ e S' a' w' ι' ro', NoCond S'.tmps → Gam E w0 ro0 S' a' w' ι' ro' → S'.n = n → k e S' = some rr → Q e.toExit a' w') →
    ∃ Q', scopeAt P c Q = some (sc, Q') ∧ ∀ e S' a' w' ι' ro', NoCond S'.tmps → Gam E w0 ro0 S' a' w' ι' ro' → S'.n = n → k' e S' = some rr → Q' e.toExit a' w' := by
  intro c
  induction c with
  | scope c ih =>
    intro i k Q sc k' hp hc hk
    cases hc
    exact ⟨Q, rfl, hk⟩
  | seq x y ihx ihy =>
    intro i k Q sc k' hp hc hk
    simp only [ctxS] at hc
    split at hc
    · rename_i hx hy
      simp only [scopeAt, hx]
      refine ihx i _ _ sc k' hp.seq.1 hc fun e S' a' w' ι' ro' h1 h2 h3 h4 => ?_
      cases e with
      | normal => exact evCode_sound hO hmix hG y _ S' k Q a' w' ι' ro' hp.seq.2 (fun e => by rw [hy] at e; cases e) h1 h2 h3 h4 hk
      | exit id => exact hk (.exit id) S' a' w' ι' ro' h1 h2 h3 h4
      | goto l => exact hk (.goto l) S' a' w' ι' ro' h1 h2 h3 h4
      | ret => exact hk .ret S' a' w' ι' ro' h1 h2 h3 h4
    · rename_i hx hy
      simp only [scopeAt, hx]
      exact ihy _ k Q sc k' hp.seq.2 hc hk
    · cases hc
  | block id body ih =>
    intro i k Q sc k' hp hc hk
    refine ih i _ _ sc k' hp.block hc fun e S' a' w' ι' ro' h1 h2 h3 h4 => ?_
    cases e with
    | normal => exact hk .normal S' a' w' ι' ro' h1 h2 h3 h4
    | goto l => exact hk (.goto l) S' a' w' ι' ro' h1 h2 h3 h4
    | ret => exact hk .ret S' a' w' ι' ro' h1 h2 h3 h4
    | exit i =>
      simp only [AExit.toExit, Exit.inBlock, blockK] at h4 ⊢
      cases hb : Nat.beq i id with
      | true =>
        rw [hb] at h4
        rw [if_pos (Nat.eq_of_beq_eq_true hb)]
        exact hk .normal S' a' w' ι' ro' h1 h2 h3 h4
      | false =>
        rw [hb] at h4
        rw [if_neg (fun e => by subst e; simp at hb)]
        exact hk (.exit i) S' a' w' ι' ro' h1 h2 h3 h4
  | _ => intro i k Q sc k' hp hc hk; cases hc
theorem segC_sound {R : Type} (hO : OracleOk E O) (hmix : P.follows .mixedOrders = true) {G : Nat → ASt E → Option R} {rr : R} (hG : ∀ i S, G i S = some rr → w0.k = none ∧ HdOk E w0 ro0 n c0 Q0 i S) {j : Nat} {S : ASt E} {k : AExit → ASt E → Option R}
    (hk : ∀ e S' a' w' ι' ro', NoCond S'.tmps → Gam E w0 ro0 S' a' w' ι' ro' → S'.n = n → k e S' = some rr → Q0 e.toExit a' w') (hs : segC O h G c0 j S k = some rr) : HdOk E w0 ro0 n c0 Q0 j S := by
  unfold segC at hs
  split at hs
  · rename_i hj
    have hj := Nat.le_of_ble_eq_true hj
    split at hs
    · rename_i hn
      have hnl := Nat.le_of_ble_eq_true hn
      refine ⟨fun b Q hc => ?_, fun l hl sc Q rest hsc hf a w ι ro hnc hg hn => ?_⟩
      · rw [contAt_none c0 j Q0 (by omega)] at hc; cases hc
      · unfold segS at hs
        split at hs
        · rename_i sc2 k2 hc
          obtain ⟨Q2, q1, q2⟩ := ctxS_sound hO hmix hG c0 0 k Q0 sc2 k2 Placed.whole hc hk
          rw [hsc] at q1
          cases q1
          subst hl
          rw [Nat.add_sub_cancel_left, hf] at hs
          simp only at hs
          split at hs
          · rename_i hns hz
            refine evCode_sound hO hmix hG rest 0 S _ _ a w ι ro (Placed.of_zero hz) (fun e => by rw [hns] at e; cases e) hnc hg hn hs fun e S' a' w' ι' ro' h1 h2 h3 h4 => ?_
            cases e with
            | normal => exact q2 .normal S' a' w' ι' ro' h1 h2 h3 h4
            | exit id => exact q2 (.exit id) S' a' w' ι' ro' h1 h2 h3 h4
            | ret => exact q2 .ret S' a' w' ι' ro' h1 h2 h3 h4
            | goto l =>
              simp only [scopeK] at h4
              split at h4
              · rename_i rest2 hf2
                obtain ⟨ι2, g1, g2, g3⟩ := headAt_sound h (100 + l) (hG _ _ h4).1 h1 h2 h3
                exact ⟨rest2, hf2, JumpWp.of ((hG _ _ h4).2.2 l rfl sc Q rest2 hsc hf2 a' w' ι2 ro' g1 g2 g3)⟩
              · cases h4
          · cases hs
        · cases hs
    · cases hs
  rename_i hj
  split at hs
  · cases hs
  rename_i hns
  split at hs
  · rename_i i b k' hc
    refine ⟨?_, fun l hl => absurd (Nat.ble_eq_true_of_le (show 100 ≤ j by omega)) (by rw [hj]; decide)⟩
    obtain ⟨e1, hnb, Q', hp, hk'⟩ := ctxK_sound hO hmix hG c0 0 j k Q0 i b k' Placed.whole hns hc hk
    rw [Nat.zero_add] at e1
    subst e1
    intro b2 Q2 hc2 a w ι ro hnc hg hn
    rw [hp.head] at hc2
    cases hc2
    refine LoopWp.round (evCode_sound hO hmix hG b (i + 1) S _ _ a w ι ro hp.inner (fun e => by rw [hnb] at e; cases e) hnc hg hn hs fun e S' a' w' ι' ro' h1 h2 h3 h4 => ?_)
    cases e with
    | normal =>
      obtain ⟨ι2, g1, g2, g3⟩ := headAt_sound h i (hG i _ h4).1 h1 h2 h3
      exact (hG i _ h4).2.1 b Q' hp.head a' w' ι2 ro' g1 g2 g3
    | exit id => exact hk' (.exit id) S' a' w' ι' ro' h1 h2 h3 h4
    | goto l => exact hk' (.goto l) S' a' w' ι' ro' h1 h2 h3 h4
    | ret => exact hk' .ret S' a' w' ι' ro' h1 h2 h3 h4
  · cases hs
theorem argsT_look : ∀ {args : List (TV E)} {i t : Nat} {x : AV E}, look (argsT args i) t = some x → i ≤ t ∧ ∃ y, args[t - i]? = some y ∧ x = expandA y.1 y.2
  | [], _, _, _, h => by cases h
  | ⟨ty, y⟩ :: r, i, t, x, h => by
    simp only [argsT, look] at h
    split at h
    · rename_i hb
      have := Nat.eq_of_beq_eq_true hb
      subst this
      cases h
      exact ⟨Nat.le_refl _, ⟨ty, y⟩, by simp, rfl⟩
    · rename_i hb
      obtain ⟨h1, z, h2, h3⟩ := argsT_look h
      exact ⟨by omega, z, by rw [show t - i = (t - (i + 1)) + 1 from by omega]; simpa using h2, h3⟩
theorem expandA_noCond {t : E.Ty} {x : E.Den t} : isCond (expandA t x) = false := by
  unfold expandA
  split
  · rfl
  · split <;> rfl
theorem argsT_noCond : ∀ (args : List (TV E)) (i : Nat), NoCond (argsT args i)
  | [], _ => fun p h => by cases h
  | ⟨t, x⟩ :: r, i => fun p h => by
    cases h with
    | head => exact expandA_noCond
    | tail _ h => exact argsT_noCond r (i + 1) p h
def resV (tmps : Array Value) : ResultVar → Sem Value
  | .tmp t => pure (tmps.getD t undef)
  | .cell q ty => do loadVar ty (← asAddr (tmps.getD q undef))
theorem valA_rep {S : ASt E} {a : Act} {w : World} {ι : Nat → Option Gh} {ro : Nat → Nat → Prop} (hg : Gam E w0 ro0 S a w ι ro) {r : ResultVar} {x : AV E} (h : valA S r = some x) :
    ∃ v, (resV a.tmps r).run P w = .ok v w ∧ Rep E w ro ι v x := by
  have hasm : AsmOk a [] := fun j b hb => by simp [hasAsm] at hb
  cases r with
  | tmp t =>
    cases h
    exact ⟨_, rfl, getA_rep (E := E) hg.tmps hasm (.tmp t)⟩
  | cell q ty =>
    have hv := getA_rep (E := E) hg.tmps hasm (.tmp q)
    change Rep E w ro ι (a.tmps.getD q undef) (slotA [] (look S.tmps q)) at hv
    generalize hu : a.tmps.getD q undef = u at hv
    obtain ⟨val, hrun, hr⟩ := run_load_done (S := S) hg.objs hv h
    refine ⟨val, ?_, hr⟩
    show (do loadVar ty (← asAddr (a.tmps.getD q undef)) : Sem Value).run P w = _
    rw [hu]
    simp only [Instr.loadAt, Sem.run_bind] at hrun ⊢
    cases u with
    | pointer p =>
      cases p with
      | some ad => simpa [Instr.sureAddr, asAddr] using hrun
      | none => simp [Instr.sureAddr, stuck, Result.andThen] at hrun
    | _ => simp [Instr.sureAddr, stuck, Result.andThen] at hrun
theorem resA_rep {S : ASt E} {a : Act} {w : World} {ι : Nat → Option Gh} {ro : Nat → Nat → Prop} (hg : Gam E w0 ro0 S a w ι ro) : ∀ {rs : List ResultVar} {Ts : List TypeId} {xs : List (TV E)}, resA S rs Ts = some xs →
    ∃ vs : List Value, (rs.mapM (resV a.tmps)).run P w = Result.ok vs w ∧ ArgsRep E w ro vs xs
  | [], [], xs, h => by cases h; exact ⟨[], by simp, trivial⟩
  | r :: rs, T :: Ts, xs, h => by
    unfold resA at h
    split at h
    · rename_i t ht
      split at h
      · rename_i v hv
        split at h
        · rename_i x hx
          split at h
          · rename_i ys hys
            cases h
            obtain ⟨u, hu, hr⟩ := valA_rep hg hv
            obtain ⟨us, hus, hrs⟩ := resA_rep hg hys
            exact ⟨u :: us, by rw [List.mapM_cons]; simp only [Sem.run_bind, hu, Result.andThen_ok, hus, Sem.run_pure], foldA_rep hr hx, hrs⟩
          · cases h
        · cases h
      · cases h
    · cases h
  | [], _ :: _, _, h => by cases h
  | _ :: _, [], _, h => by cases h
theorem below_of_grown {w w' : World} (h : w.grownBy w' none) : Below w.heap.size w w' := ⟨h.os, h.tape, h.output, h.size, fun k hk => h.block k hk (fun e => by cases e)⟩
def EndOk (E : Env P) (fn : Func) (res : List (TV E)) (w : World) (ro : Nat → Nat → Prop) : Exit → Act → World → Prop :=
  bodyPost P fn fun e w' => ∃ v, e = .returned v ∧ Below w.heap.size w w' ∧ RetRep E w' (fun k o => ro k o ∨ (w.heap.size ≤ k ∧ k < w'.heap.size)) v res
theorem endK_sound {fn : Func} {res : List (TV E)} {w : World} {ro : Nat → Nat → Prop} {e : AExit} {S' : ASt E} {a' : Act} {w' : World} {ι' : Nat → Option Gh} {ro' : Nat → Nat → Prop} (hnc' : NoCond S'.tmps) (hg' : Gam E ⟨w, none, none, [], fun _ => none⟩ ro S' a' w' ι' ro') (hk : endK fn e S' = some res) :
    EndOk E fn res w ro e.toExit a' w' := by
  obtain ⟨_, hg'⟩ := freezeS_sound hnc' hg'
  generalize frzRo S'.objs ι' ro' = ro' at hg'
  have fin : resA (freezeS S') fn.results.toList fn.resultTypes.toList = some res → a'.defers = [] ∧ ∃ v, (results fn a'.tmps).run P w' = .ok v w' ∧
      (∃ v', Ending.returned v = .returned v' ∧ Below w.heap.size w w' ∧ RetRep E w' (fun k o => ro k o ∨ (w.heap.size ≤ k ∧ k < w'.heap.size)) v' res) := by
    intro hres
    obtain ⟨vs, hvs, hrep⟩ := resA_rep hg' hres
    have hmono : ArgsRep E w' (fun k o => ro k o ∨ (w.heap.size ≤ k ∧ k < w'.heap.size)) vs res := by
      have hmm : ∀ (vs : List Value) (rs : List (TV E)), ArgsRep E w' ro' vs rs → ArgsRep E w' (fun k o => ro k o ∨ (w.heap.size ≤ k ∧ k < w'.heap.size)) vs rs := by
        intro vs
        induction vs with
        | nil => intro rs h; cases rs <;> exact h
        | cons v vs ih =>
          intro rs h
          cases rs with
          | nil => exact h
          | cons r rs =>
            exact ⟨h.1.mono (fun k o hk => by
              rcases hg'.base.ronew k o hk with h | h
              · exact .inl h
              · rcases h with h | h
                · exact .inr ⟨h, hg'.base.rolt k o hk⟩
                · cases h) (fun _ _ _ => rfl), ih rs h.2⟩
      exact hmm vs res hrep
    have hl := (ArgsRep.at_ vs res hrep).1
    refine ⟨hg'.base.defers, if h : vs.length = 1 then vs[0] else .tuple vs.toArray, ?_, _, rfl, below_of_grown hg'.base.below, ?_⟩
    · show (do let vs ← fn.results.mapM (resV a'.tmps); pure (if h : vs.size = 1 then vs[0] else .tuple vs) : Sem Value).run P w' = _
      rw [Array.mapM_eq_mapM_toList]
      simp only [Sem.run_bind, Sem.run_map, hvs]
      simp [Result.andThen]
    · unfold RetRep
      split
      · rename_i t x
        match vs, hl, hmono with
        | [v], _, hm => exact hm.1
      · rename_i hne
        by_cases h1 : vs.length = 1
        · exfalso
          match res, hl.symm.trans h1, hne with
          | [⟨t, x⟩], _, hne => exact hne t x rfl
        · rw [dif_neg h1]
          exact ⟨vs, rfl, hmono⟩
  cases e with
  | normal => exact fin hk
  | ret => exact fin hk
  | exit id => cases hk
  | goto l => cases hk
def Ev (E : Env P) (fn : Func) (res : List (TV E)) (i : Nat) (S : ASt E) : Prop :=
  ∀ (w0 : World) ro0 n c, fn.body = some c → HdOk E ⟨w0, none, none, [], fun _ => none⟩ ro0 n c (EndOk E fn res w0 ro0) i S
open Classical in
noncomputable def Gr (E : Env P) (fn : Func) (res : List (TV E)) (i : Nat) (S : ASt E) : Option (List (TV E)) := if Ev E fn res i S then some res else none
theorem Gr_of {fn : Func} {res : List (TV E)} {i : Nat} {S : ASt E} (h : Ev E fn res i S) : Gr E fn res i S = some res := if_pos h
theorem Gr_ev {fn : Func} {res r : List (TV E)} {i : Nat} {S : ASt E} (h : Gr E fn res i S = some r) : Ev E fn res i S := by
  unfold Gr at h
  split at h
  · assumption
  · cases h
theorem Ev.step (hO : OracleOk E O) (hmix : P.follows .mixedOrders = true) {fn : Func} {res : List (TV E)} {j : Nat} {S : ASt E} (hs : runL O h (Gr E fn res) fn j S = some res) : Ev E fn res j S := by
  intro w0 ro0 n c hc
  unfold runL at hs
  rw [hc] at hs
  exact segC_sound hO hmix (fun i S hi => ⟨rfl, Gr_ev hi w0 ro0 n c hc⟩) (fun e S' a' w' ι' ro' h1 h2 _ h4 => endK_sound h1 h2 h4) hs
theorem callsOk_of (hO : OracleOk E O) (hmix : P.follows .mixedOrders = true) {f : FuncId} {fn : Func} (hf : P.funcs[f]? = some fn) {args res : List (TV E)} (hr : runE O h (Gr E fn res) fn args = some res) : CallsOk E f args res := by
  unfold runE at hr
  split at hr
  · rename_i c hc
    intro w ro vals hargs hrolt
    obtain ⟨hlen, hat⟩ := ArgsRep.at_ vals args hargs
    refine calls_of_wp hf hc ?_
    have hg : Gam E ⟨w, none, none, [], fun _ => none⟩ ro (startS fn args) { tmps := vals.toArray ++ Array.replicate (fn.ntmps - vals.toArray.size) undef, defers := [] } w (fun _ => none) ro := {
      base := ⟨⟨rfl, rfl, rfl, Nat.le_refl _, fun _ _ _ => rfl⟩, hrolt, fun k o h => .inl h, (fun id gh k h => by cases h), rfl, (fun q h => by cases h), (fun k o h => by cases h)⟩
      size := by simp [startS, hlen]
      tmps := fun t x hl => by
        obtain ⟨_, y, hy, rfl⟩ := argsT_look hl
        rw [Nat.sub_zero] at hy
        have hlt : t < vals.length := by rw [hlen]; exact (List.getElem?_eq_some_iff.1 hy).1
        have hv := List.getElem?_eq_getElem hlt
        refine ⟨vals[t], by simp [Array.getElem?_append, hlt], ?_⟩
        have hr : Rep E w ro (fun _ => none) vals[t] (expandA y.1 y.2) := expandA_rep (hat t _ y hv hy)
        have hc := expandA_noCond (E := E) (t := y.1) (x := y.2)
        generalize expandA y.1 y.2 = z at hr hc
        cases z <;> first | exact hr | cases hc
      objs := fun id o hl => by cases hl
      inj := fun id id' o o' gh gh' k hl => by cases hl
      fresh := fun _ _ => rfl
      ids := fun id o hl => by cases hl }
    exact evCode_sound (n := (startS fn args).n) (Q0 := EndOk E fn res w ro) (c0 := c) hO hmix (fun i S hi => ⟨rfl, Gr_ev hi w ro _ c hc⟩) c 0 (startS fn args) (endK fn) _ _ w _ ro Placed.whole (fun _ => rfl) (argsT_noCond args 0) hg rfl hr
      fun e S' a' w' ι' ro' h1 h2 _ h4 => endK_sound h1 h2 h4
  · cases hr
end
end Go.Proofs.YtinangndhcbjbaaDoor.Mir
namespace Go.Proofs.YtinangndhcbjbaaDoor.Mir
open Go Go.RowKit
theorem info_of {P : Program} {T a b c : Nat} (h : (P.info? T).map (fun i => (i.size, i.bytes, i.zero.map fun z => z.cells.size)) = some (a, b, some c)) (hc : c = a) :
    ∃ i z, P.info? T = some i ∧ i.size = a ∧ i.bytes = b ∧ i.zero = some z ∧ z.cells.size = a := by
  subst hc
  cases hi : P.info? T with
  | none => rw [hi] at h; cases h
  | some i =>
    rw [hi] at h
    simp only [Option.map_some, Option.some.injEq, Prod.mk.injEq] at h
    obtain ⟨h1, h2, h3⟩ := h
    cases hz : i.zero with
    | none => rw [hz] at h3; cases h3
    | some z =>
      rw [hz] at h3
      exact ⟨i, z, rfl, h1, h2, hz, by simpa using h3⟩
section
variable {Ty : Type} {Den : Ty → Type}
def dInt (k : IntKind) : DVal Den → Option Int
  | .int k' n => if k = k' then some n else none
  | _ => none
def dBl : DVal Den → Option Bool
  | .bool b => some b
  | _ => none
def dStr : DVal Den → Option (List UInt8)
  | .str s => some s
  | _ => none
def dSl (dec : DecidableEq Ty) (t : Ty) : DVal Den → Option (List (Den t))
  | .slice t' l => match dec t' t with
    | .isTrue h => some (h ▸ l)
    | .isFalse _ => none
  | .raw (.slice none 0 0) => some []
  | _ => none
def dFn : DVal Den → Option Nat
  | .raw (.func (.func f) ⟨[]⟩ ⟨[]⟩) => some f
  | _ => none
theorem dFn_le {c : DVal Den} {n : Nat} (h : dFn c = some n) : DLe c (.raw (.func (.func n) #[] #[])) := by
  unfold dFn at h
  split at h
  · cases h; exact .inl rfl
  · cases h
theorem dInt_le {k : IntKind} {c : DVal Den} {n : Int} (h : dInt k c = some n) : DLe c (.int k n) := by
  unfold dInt at h
  split at h
  · split at h
    · rename_i e; subst e; cases h; exact .inl rfl
    · cases h
  · cases h
theorem dBl_le {c : DVal Den} {n : Bool} (h : dBl c = some n) : DLe c (.bool n) := by
  unfold dBl at h
  split at h
  · cases h; exact .inl rfl
  · cases h
theorem dStr_le {c : DVal Den} {n : List UInt8} (h : dStr c = some n) : DLe c (.str n) := by
  unfold dStr at h
  split at h
  · cases h; exact .inl rfl
  · cases h
theorem dSl_le {dec : DecidableEq Ty} {t : Ty} {c : DVal Den} {l : List (Den t)} (h : dSl dec t c = some l) : DLe c (.slice t l) := by
  unfold dSl at h
  split at h
  · split at h
    · rename_i e _; subst e; cases h; exact .inl rfl
    · cases h
  · cases h; exact .inr ⟨rfl, t, rfl⟩
  · cases h
end
section
variable {P : Program} {E : Env P}
abbrev FnW (E : Env P) := List (TV E) → Option (Bool × List (TV E))
abbrev FnR (E : Env P) := List (TV E) → Option (Bool × ((t : E.Ty) × List (E.Den t)))
abbrev FnM (E : Env P) := (t : E.Ty) → List (E.Den t) → List (TV E) → Option (Bool × Bool × List (E.Den t))
def orac (l : List (FuncId × FnW E)) (m : List (FuncId × FnR E) := []) (u : List (FuncId × FnM E) := []) (gr : List (FuncId × E.Ty) := []) : Oracle E where
  call := fun f args => match look l f with
    | some F => F args
    | none => none
  isFresh := fun f => match look m f with
    | some _ => true
    | none => false
  fresh := fun f args => match look m f with
    | some F => F args
    | none => none
  isMut := fun f => match look u f with
    | some _ => true
    | none => false
  grow := fun f => look gr f
  rowf := fun f t l xs => match look u f with
    | some F => F t l xs
    | none => none
  inl := .nil
def FreshOk (E : Env P) (f : FuncId) (F : FnR E) : Prop :=
  (∃ fn, P.funcs[f]? = some fn ∧ (fn.name == "runtime.NumGoroutine") = false ∧ fn.body.isNone = false) ∧ ∀ args t l, F args = some (true, ⟨t, l⟩) → CallsFresh E f args t l
def MutOk (E : Env P) (f : FuncId) (F : FnM E) : Prop :=
  (∃ fn, P.funcs[f]? = some fn ∧ (fn.name == "runtime.NumGoroutine") = false ∧ fn.body.isNone = false) ∧ ∀ t l xs back l', F t l xs = some (true, back, l') → CallsMut E f t l xs back l'
def GrowOk (E : Env P) (f : FuncId) (t : E.Ty) : Prop :=
  (∃ fn, P.funcs[f]? = some fn ∧ (fn.name == "runtime.NumGoroutine") = false ∧ fn.body.isNone = false) ∧ CallsGrow E f t
def AllGrow (l : List (FuncId × E.Ty)) : Prop := ∀ p ∈ l, GrowOk E p.1 p.2
theorem AllGrow.nil : AllGrow (E := E) [] := fun p h => by cases h
theorem AllGrow.cons {f : FuncId} {t : E.Ty} {l : List (FuncId × E.Ty)} (h : GrowOk E f t) (hl : AllGrow l) : AllGrow ((f, t) :: l) := fun p hp => by
  cases hp with
  | head => exact h
  | tail _ hp => exact hl p hp
def AllMut (l : List (FuncId × FnM E)) : Prop := ∀ p ∈ l, MutOk E p.1 p.2
def AllOk (l : List (FuncId × FnW E)) : Prop := ∀ p ∈ l, FnOk E p.1 p.2
def AllFresh (l : List (FuncId × FnR E)) : Prop := ∀ p ∈ l, FreshOk E p.1 p.2
theorem orac_ok {l : List (FuncId × FnW E)} {m : List (FuncId × FnR E)} {u : List (FuncId × FnM E)} {gr : List (FuncId × E.Ty)} (h : AllOk l) (hm : AllFresh m) (hu : AllMut u) (hg : AllGrow gr) : OracleOk E (orac l m u gr) := by
  refine ⟨fun f args res hr => ?_, fun f args t x hr => ?_, fun f t x rest back x' hr => ?_, fun f t hr => hg _ (look_mem _ _ _ hr), (fun f args objs next k rr h => by cases h), (fun f T h => by cases h)⟩
  · simp only [orac] at hr
    split at hr
    · rename_i F hF
      have := h _ (look_mem _ _ _ hF)
      exact ⟨this.1, this.2 args res hr⟩
    · cases hr
  · simp only [orac] at hr
    split at hr
    · rename_i F hF
      have := hm _ (look_mem _ _ _ hF)
      exact ⟨this.1, this.2 args t x hr⟩
    · cases hr
  · simp only [orac] at hr
    split at hr
    · rename_i F hF
      have := hu _ (look_mem _ _ _ hF)
      exact ⟨this.1, this.2 t x rest back x' hr⟩
    · cases hr
theorem AllOk.nil : AllOk (E := E) [] := fun p h => by cases h
theorem AllFresh.nil : AllFresh (E := E) [] := fun p h => by cases h
theorem AllOk.cons {f : FuncId} {F : FnW E} {l : List (FuncId × FnW E)} (h : FnOk E f F) (hl : AllOk l) : AllOk ((f, F) :: l) := fun p hp => by
  cases hp with
  | head => exact h
  | tail _ hp => exact hl p hp
theorem AllMut.nil : AllMut (E := E) [] := fun p h => by cases h
theorem AllMut.cons {f : FuncId} {F : FnM E} {l : List (FuncId × FnM E)} (h : MutOk E f F) (hl : AllMut l) : AllMut ((f, F) :: l) := fun p hp => by
  cases hp with
  | head => exact h
  | tail _ hp => exact hl p hp
theorem AllFresh.cons {f : FuncId} {F : FnR E} {l : List (FuncId × FnR E)} (h : FreshOk E f F) (hl : AllFresh l) : AllFresh ((f, F) :: l) := fun p hp => by
  cases hp with
  | head => exact h
  | tail _ hp => exact hl p hp
def castV (t : E.Ty) (v : TV E) : Option (E.Den t) := castD v.1 t v.2
theorem castV_eq {t : E.Ty} {v : TV E} {x : E.Den t} (h : castV t v = some x) : v = ⟨t, x⟩ := by
  unfold castV castD at h
  cases hd : E.dec v.1 t with
  | isFalse hn => rw [hd] at h; cases h
  | isTrue he =>
    rw [hd] at h
    obtain ⟨t', y⟩ := v
    simp only at he
    subst he
    cases h
    rfl
def fn0 (t : E.Ty) (ok : Bool) (F : E.Den t) : FnW E
  | [] => some (ok, [⟨t, F⟩])
  | _ => none
def fn1 (a t : E.Ty) (ok : E.Den a → Bool) (F : E.Den a → E.Den t) : FnW E
  | [x] => match castV a x with
    | some x => some (ok x, [⟨t, F x⟩])
    | none => none
  | _ => none
def fn2 (a b t : E.Ty) (ok : E.Den a → E.Den b → Bool) (F : E.Den a → E.Den b → E.Den t) : FnW E
  | [x, y] => match castV a x with
    | some x => match castV b y with
      | some y => some (ok x y, [⟨t, F x y⟩])
      | none => none
    | none => none
  | _ => none
def fn22 (a b t u : E.Ty) (ok : E.Den a → E.Den b → Bool) (F : E.Den a → E.Den b → E.Den t) (G : E.Den a → E.Den b → E.Den u) : FnW E
  | [x, y] => match castV a x with
    | some x => match castV b y with
      | some y => some (ok x y, [⟨t, F x y⟩, ⟨u, G x y⟩])
      | none => none
    | none => none
  | _ => none
def fn3 (a b c t : E.Ty) (ok : E.Den a → E.Den b → E.Den c → Bool) (F : E.Den a → E.Den b → E.Den c → E.Den t) : FnW E
  | [x, y, z] => match castV a x with
    | some x => match castV b y with
      | some y => match castV c z with
        | some z => some (ok x y z, [⟨t, F x y z⟩])
        | none => none
      | none => none
    | none => none
  | _ => none
end
section
variable {P : Program} {E : Env P} {O : Oracle E} {masks : Hint E} {f : FuncId} {fn : Func}
theorem fnOk_of (hO : OracleOk E O) (hmix : P.follows .mixedOrders = true) (hf : P.funcs[f]? = some fn) (hn : (fn.name == "runtime.NumGoroutine") = false) (hb : fn.body.isNone = false) {F : FnW E}
    (h : ∀ args res, F args = some (true, res) → runE O masks (Gr E fn res) fn args = some res) : FnOk E f F :=
  ⟨⟨fn, hf, hn, hb⟩, fun args res hr => callsOk_of hO hmix hf (h args res hr)⟩
theorem fn0_ok {t : E.Ty} {ok : Bool} {F : E.Den t} (hO : OracleOk E O) (hmix : P.follows .mixedOrders = true) (hf : P.funcs[f]? = some fn) (hn : (fn.name == "runtime.NumGoroutine") = false) (hb : fn.body.isNone = false)
    (h : ok = true → runE O masks (Gr E fn [⟨t, F⟩]) fn [] = some [⟨t, F⟩]) : FnOk E f (fn0 t ok F) := by
  refine fnOk_of (masks := masks) hO hmix hf hn hb fun args res hr => ?_
  unfold fn0 at hr
  split at hr
  · cases hr; exact h rfl
  · cases hr
theorem fn1_ok {a t : E.Ty} {ok : E.Den a → Bool} {F : E.Den a → E.Den t} (hO : OracleOk E O) (hmix : P.follows .mixedOrders = true) (hf : P.funcs[f]? = some fn) (hn : (fn.name == "runtime.NumGoroutine") = false) (hb : fn.body.isNone = false)
    (h : ∀ x, ok x = true → runE O masks (Gr E fn [⟨t, F x⟩]) fn [⟨a, x⟩] = some [⟨t, F x⟩]) : FnOk E f (fn1 a t ok F) := by
  refine fnOk_of (masks := masks) hO hmix hf hn hb fun args res hr => ?_
  unfold fn1 at hr
  split at hr
  · split at hr
    · rename_i x hx
      injection hr with hr
      injection hr with h1 h2
      subst h2
      rw [castV_eq hx]
      exact h _ h1
    · cases hr
  · cases hr
theorem fn2_ok {a b t : E.Ty} {ok : E.Den a → E.Den b → Bool} {F : E.Den a → E.Den b → E.Den t} (hO : OracleOk E O) (hmix : P.follows .mixedOrders = true) (hf : P.funcs[f]? = some fn) (hn : (fn.name == "runtime.NumGoroutine") = false) (hb : fn.body.isNone = false)
    (h : ∀ x y, ok x y = true → runE O masks (Gr E fn [⟨t, F x y⟩]) fn [⟨a, x⟩, ⟨b, y⟩] = some [⟨t, F x y⟩]) : FnOk E f (fn2 a b t ok F) := by
  refine fnOk_of (masks := masks) hO hmix hf hn hb fun args res hr => ?_
  unfold fn2 at hr
  split at hr
  · split at hr
    · rename_i x hx
      split at hr
      · rename_i y hy
        injection hr with hr
        injection hr with h1 h2
        subst h2
        rw [castV_eq hx, castV_eq hy]
        exact h _ _ h1
      · cases hr
    · cases hr
  · cases hr
theorem fn22_ok {a b t u : E.Ty} {ok : E.Den a → E.Den b → Bool} {F : E.Den a → E.Den b → E.Den t} {G' : E.Den a → E.Den b → E.Den u} (hO : OracleOk E O) (hmix : P.follows .mixedOrders = true) (hf : P.funcs[f]? = some fn) (hn : (fn.name == "runtime.NumGoroutine") = false) (hb : fn.body.isNone = false)
    (h : ∀ x y, ok x y = true → runE O masks (Gr E fn [⟨t, F x y⟩, ⟨u, G' x y⟩]) fn [⟨a, x⟩, ⟨b, y⟩] = some [⟨t, F x y⟩, ⟨u, G' x y⟩]) : FnOk E f (fn22 a b t u ok F G') := by
  refine fnOk_of (masks := masks) hO hmix hf hn hb fun args res hr => ?_
  unfold fn22 at hr
  split at hr
  · split at hr
    · rename_i x hx
      split at hr
      · rename_i y hy
        injection hr with hr
        injection hr with h1 h2
        subst h2
        rw [castV_eq hx, castV_eq hy]
        exact h _ _ h1
      · cases hr
    · cases hr
  · cases hr
theorem fn3_ok {a b c t : E.Ty} {ok : E.Den a → E.Den b → E.Den c → Bool} {F : E.Den a → E.Den b → E.Den c → E.Den t} (hO : OracleOk E O) (hmix : P.follows .mixedOrders = true) (hf : P.funcs[f]? = some fn) (hn : (fn.name == "runtime.NumGoroutine") = false) (hb : fn.body.isNone = false)
    (h : ∀ x y z, ok x y z = true → runE O masks (Gr E fn [⟨t, F x y z⟩]) fn [⟨a, x⟩, ⟨b, y⟩, ⟨c, z⟩] = some [⟨t, F x y z⟩]) : FnOk E f (fn3 a b c t ok F) := by
  refine fnOk_of (masks := masks) hO hmix hf hn hb fun args res hr => ?_
  unfold fn3 at hr
  split at hr
  · split at hr
    · rename_i x hx
      split at hr
      · rename_i y hy
        split at hr
        · rename_i z hz
          injection hr with hr
          injection hr with h1 h2
          subst h2
          rw [castV_eq hx, castV_eq hy, castV_eq hz]
          exact h _ _ _ h1
        · cases hr
      · cases hr
    · cases hr
  · cases hr
end
end Go.Proofs.YtinangndhcbjbaaDoor.Mir
namespace Go.Proofs.YtinangndhcbjbaaDoor.Mir
open Go Go.RowKit
section
variable {P : Program} {E : Env P}
def argsI : List (AV E) → Nat → List (Nat × AV E)
  | [], _ => []
  | v :: r, i => (i, bif isCond v then .any else v) :: argsI r (i + 1)
def startI (fn : Func) (args : List (AV E)) (objs : List (Nat × AObj E)) (next : Nat) : ASt E := ⟨args.length + (fn.ntmps - args.length), argsI args 0, objs, next⟩
def valsA (S : ASt E) : List ResultVar → Option (List (AV E))
  | [] => some []
  | r :: rs => match valA S r with
    | some v => (match isCond v with
      | true => none
      | false => (match valsA S rs with
        | some vs => some (v :: vs)
        | none => none))
    | none => none
def endI {R : Type} (fn : Func) (k : AV E → List (Nat × AObj E) → Nat → Option R) (e : AExit) (S : ASt E) : Option R := match e with
  | .exit _ => none
  | .goto _ => none
  | _ => match valsA S fn.results.toList with
    | some [v] => k v S.objs S.next
    | some vs => k (.tup vs) S.objs S.next
    | none => none
def loopU {R : Type} (f : ASt E → (AExit → ASt E → Option R) → Option R) : Nat → ASt E → (AExit → ASt E → Option R) → Option R
  | 0, _, _ => none
  | m + 1, S, k => f S (seqK (fun S' => loopU f m S' k) k)
def evU {R : Type} (O : Oracle E) (h : Hint E) (m : Nat) : Code → ASt E → (AExit → ASt E → Option R) → Option R
  | .skip, S, k => k .normal S
  | .region id ops dr, S, k => splitK (atN h.split id) (openS (atN h.opn id) (match memN h.frz id with | true => freezeS S | false => S)) fun S' => evRegL (memN h.lst id) O ops dr S' (k .normal)
  | .seq x y, S, k => evU O h m x S (seqK (fun S' => evU O h m y S' k) k)
  | .cond c x y, S, k => match getA S.tmps [] c with
    | .d (.bool b) => bif b then evU O h m x S k else evU O h m y S k
    | _ => none
  | .block id body, S, k => evU O h m body S (blockK id k)
  | .loop b, S, k => loopU (evU O h m b) m S k
  | .exit id, S, k => k (.exit id) S
  | .ret, S, k => k .ret S
  | _, _, _ => none
theorem evU_sound {R : Type} {O : Oracle E} (hO : OracleOk E O) (hmix : P.follows .mixedOrders = true) {h : Hint E} {m n : Nat} {w0 : Start} {ro0 : Nat → Nat → Prop} {rr : R} :
    ∀ (c : Code) (S : ASt E) (k : AExit → ASt E → Option R) (Q : Exit → Act → World → Prop) (a : Act) (w : World) (ι : Nat → Option Gh) (ro : Nat → Nat → Prop),
    NoCond S.tmps → Gam E w0 ro0 S a w ι ro → S.n = n → evU O h m c S k = some rr →
    (∀ e S' a' w' ι' ro', NoCond S'.tmps → Gam E w0 ro0 S' a' w' ι' ro' → S'.n = n → k e S' = some rr → Q e.toExit a' w') → c.wp P Q a w := by
  intro c
  induction c with
  | skip => intro S k Q a w ι ro hnc hg hn h hk; exact wp_skip (hk .normal S a w ι ro hnc hg hn h)
  | ret => intro S k Q a w ι ro hnc hg hn h hk; exact wp_ret (hk .ret S a w ι ro hnc hg hn h)
  | exit id => intro S k Q a w ι ro hnc hg hn h hk; exact wp_exit (hk (.exit id) S a w ι ro hnc hg hn h)
  | region id ops draw =>
    intro S k Q a w ι ro hnc hg hn hh hk
    have go : ∀ (S : ASt E) (ro : Nat → Nat → Prop), NoCond S.tmps → Gam E w0 ro0 S a w ι ro → S.n = n → evRegL (memN h.lst id) O ops draw S (k .normal) = some rr → (Code.region id ops draw).wp P Q a w := fun S ro hnc hg hn hq =>
      evRegL_sound hO hmix hnc hg (fun S' a' w' ι' ro' h1 h2 h3 h4 => hk .normal S' a' w' ι' ro' h1 h2 (h3.trans hn) h4) hq
    simp only [evU] at hh
    have fin : ∀ (l1 : List (Nat × Nat)) (l2 : List Nat) (S : ASt E) (ro : Nat → Nat → Prop), NoCond S.tmps → Gam E w0 ro0 S a w ι ro → S.n = n → splitK l1 (openS l2 S) (fun S' => evRegL (memN h.lst id) O ops draw S' (k .normal)) = some rr → (Code.region id ops draw).wp P Q a w := by
      intro l1 l2 S ro hnc hg hn h
      obtain ⟨ro1, g1, g2, g3⟩ := openS_sound l2 S ro hnc hg
      obtain ⟨S2, g4, g5, g6, g7⟩ := splitK_sound _ _ g1 g2 h
      exact go S2 ro1 g4 g5 (g6.trans (g3.trans hn)) g7
    split at hh
    · obtain ⟨h1, h2⟩ := freezeS_sound hnc hg
      exact fin _ _ (freezeS S) _ h1 h2 hn hh
    · exact fin _ _ S ro hnc hg hn hh
  | seq x y ihx ihy =>
    intro S k Q a w ι ro hnc hg hn h hk
    refine wp_seq (ihx S _ _ a w ι ro hnc hg hn h fun e S' a' w' ι' ro' h1 h2 h3 h4 => ?_)
    cases e with
    | normal => exact ihy S' k Q a' w' ι' ro' h1 h2 h3 h4 hk
    | exit id => exact hk (.exit id) S' a' w' ι' ro' h1 h2 h3 h4
    | goto l => exact hk (.goto l) S' a' w' ι' ro' h1 h2 h3 h4
    | ret => exact hk .ret S' a' w' ι' ro' h1 h2 h3 h4
  | cond c x y ihx ihy =>
    intro S k Q a w ι ro hnc hg hn h hk
    have hc := getA_rep (E := E) (asm := []) hg.tmps (fun j b hb => by simp [hasAsm] at hb) c
    simp only [evU] at h
    split at h
    · rename_i b hb
      rw [hb] at hc
      have hc := hc.bool_inv
      cases b with
      | true => exact wp_cond_true hc (ihx S k Q a w ι ro hnc hg hn h hk)
      | false => exact wp_cond_false hc (ihy S k Q a w ι ro hnc hg hn h hk)
    · cases h
  | block id body ih =>
    intro S k Q a w ι ro hnc hg hn h hk
    refine wp_block (ih S _ _ a w ι ro hnc hg hn h fun e S' a' w' ι' ro' h1 h2 h3 h4 => ?_)
    cases e with
    | normal => exact hk .normal S' a' w' ι' ro' h1 h2 h3 h4
    | goto l => exact hk (.goto l) S' a' w' ι' ro' h1 h2 h3 h4
    | ret => exact hk .ret S' a' w' ι' ro' h1 h2 h3 h4
    | exit i =>
      simp only [AExit.toExit, Exit.inBlock, blockK] at h4 ⊢
      cases hb : Nat.beq i id with
      | true =>
        rw [hb] at h4
        rw [if_pos (Nat.eq_of_beq_eq_true hb)]
        exact hk .normal S' a' w' ι' ro' h1 h2 h3 h4
      | false =>
        rw [hb] at h4
        rw [if_neg (fun e => by subst e; simp at hb)]
        exact hk (.exit i) S' a' w' ι' ro' h1 h2 h3 h4
  | loop body ih =>
    intro S k Q a w ι ro hnc hg hn hh hk
    have rounds : ∀ (f : Nat) (S : ASt E) (a : Act) (w : World) (ι : Nat → Option Gh) (ro : Nat → Nat → Prop), NoCond S.tmps → Gam E w0 ro0 S a w ι ro → S.n = n → loopU (evU O h m body) f S k = some rr → LoopWp P body Q a w := by
      intro f
      induction f with
      | zero => intro S a w ι ro _ _ _ h; cases h
      | succ f ihf =>
        intro S a w ι ro hnc hg hn h
        refine LoopWp.round (ih S _ _ a w ι ro hnc hg hn h fun e S' a' w' ι' ro' h1 h2 h3 h4 => ?_)
        cases e with
        | normal => exact ihf S' a' w' ι' ro' h1 h2 h3 h4
        | exit id => exact hk (.exit id) S' a' w' ι' ro' h1 h2 h3 h4
        | goto l => exact hk (.goto l) S' a' w' ι' ro' h1 h2 h3 h4
        | ret => exact hk .ret S' a' w' ι' ro' h1 h2 h3 h4
    exact (rounds m S a w ι ro hnc hg hn hh).wp
  | _ => intro S k Q a w ι ro hnc hg hn h hk; cases h
def hintOf (hs : List (FuncId × Hint E)) (f : FuncId) : Hint E := match look hs f with
  | some h => h
  | none => {}
def mkI (O : Oracle E) (tbl : List (FuncId × Func)) (hs : List (FuncId × Hint E)) : Nat → Inl E
  | 0 => .nil
  | n + 1 => ⟨fun f => (look tbl f).isSome, fun f args objs next k => match look tbl f with
    | some fn => match fn.body with
      | some c => evU { O with inl := mkI O tbl hs n } (hintOf hs f) (hintOf hs f).rounds c (startI fn args objs next) (endI fn k)
      | none => none
    | none => none⟩
def withI (O : Oracle E) (tbl : List (FuncId × Func)) (hs : List (FuncId × Hint E) := []) (d : Nat := 4) : Oracle E := { O with inl := mkI O tbl hs d }
theorem argsI_look : ∀ {args : List (AV E)} {i t : Nat} {x : AV E}, look (argsI args i) t = some x → i ≤ t ∧ ∃ y, args[t - i]? = some y ∧ x = bif isCond y then .any else y
  | [], _, _, _, h => by cases h
  | v :: r, i, t, x, h => by
    simp only [argsI, look] at h
    split at h
    · rename_i hb
      have := Nat.eq_of_beq_eq_true hb
      subst this
      cases h
      exact ⟨Nat.le_refl _, v, by simp, rfl⟩
    · rename_i hb
      obtain ⟨h1, z, h2, h3⟩ := argsI_look h
      have hne : t ≠ i := fun e => by subst e; omega
      exact ⟨by omega, z, by rw [show t - i = (t - (i + 1)) + 1 from by omega]; simpa using h2, h3⟩
theorem argsI_noCond : ∀ (args : List (AV E)) (i : Nat), NoCond (argsI args i)
  | [], _ => fun p h => by cases h
  | v :: r, i => fun p h => by
    cases h with
    | head =>
      cases hc : isCond v with
      | true => rfl
      | false => exact hc
    | tail _ h => exact argsI_noCond r (i + 1) p h
theorem valsA_rep {w0 : Start} {ro0 : Nat → Nat → Prop} {S : ASt E} {a : Act} {w : World} {ι : Nat → Option Gh} {ro : Nat → Nat → Prop} (hg : Gam E w0 ro0 S a w ι ro) : ∀ {rs : List ResultVar} {xs : List (AV E)}, valsA S rs = some xs →
    ∃ vs : List Value, (rs.mapM (resV a.tmps)).run P w = Result.ok vs w ∧ vs.length = xs.length ∧ ∀ (i : Nat) v x, vs[i]? = some v → xs[i]? = some x → Rep E w ro ι v x ∧ isCond x = false
  | [], xs, h => by cases h; exact ⟨[], by simp, rfl, fun i v x hv => by simp at hv⟩
  | r :: rs, xs, h => by
    unfold valsA at h
    split at h
    · rename_i v hv
      split at h
      · cases h
      · rename_i hc
        split at h
        · rename_i ys hys
          cases h
          obtain ⟨u, hu, hr⟩ := valA_rep hg hv
          obtain ⟨us, hus, hl, hrs⟩ := valsA_rep hg hys
          refine ⟨u :: us, by rw [List.mapM_cons]; simp only [Sem.run_bind, hu, Result.andThen_ok, hus, Sem.run_pure], by simp [hl], fun i v' x' h1 h2 => ?_⟩
          cases i with
          | zero => simp at h1 h2; subst h1; subst h2; exact ⟨hr, hc⟩
          | succ i => exact hrs i v' x' (by simpa using h1) (by simpa using h2)
        · cases h
    · cases h
def EndIP {R : Type} (E : Env P) (k : AV E → List (Nat × AObj E) → Nat → Option R) (rr : R) (w0 : Start) (ro0 : Nat → Nat → Prop) (e : Ending) (w' : World) : Prop :=
  ∃ (v : Value) (x : AV E) (objs' : List (Nat × AObj E)) (next' : Nat) (ι' : Nat → Option Gh) (ro' : Nat → Nat → Prop) (a' : Act), e = .returned v ∧ k x objs' next' = some rr ∧ Rep E w' ro' ι' v x ∧ Base w0 ro0 a' w' ι' ro' ∧
    (∀ (id : Nat) o, look objs' id = some o → ObjOk E w' ro' ι' id o) ∧ Inj E objs' ι' ∧ (∀ id, next' ≤ id → ι' id = none) ∧ (∀ id o, look objs' id = some o → id < next')
theorem endI_sound {R : Type} {fn : Func} {k : AV E → List (Nat × AObj E) → Nat → Option R} {rr : R} {w0 : Start} {ro0 : Nat → Nat → Prop} {e : AExit} {S' : ASt E} {a' : Act} {w' : World} {ι' : Nat → Option Gh} {ro' : Nat → Nat → Prop} (hg' : Gam E w0 ro0 S' a' w' ι' ro') (hk : endI fn k e S' = some rr) (hd : w0.dl = []) :
    bodyPost P fn (EndIP E k rr w0 ro0) e.toExit a' w' := by
  have fin : (match valsA S' fn.results.toList with | some [v] => k v S'.objs S'.next | some vs => k (.tup vs) S'.objs S'.next | none => none) = some rr → a'.defers = [] ∧ ∃ v, (results fn a'.tmps).run P w' = .ok v w' ∧ EndIP E k rr w0 ro0 (.returned v) w' := by
    intro h
    cases hv : valsA S' fn.results.toList with
    | none => rw [hv] at h; cases h
    | some xs =>
      rw [hv] at h
      obtain ⟨vs, hvs, hl, hrep⟩ := valsA_rep hg' hv
      refine ⟨hg'.base.defers.trans hd, if h : vs.length = 1 then vs[0] else .tuple vs.toArray, ?_, ?_⟩
      · show (do let vs ← fn.results.mapM (resV a'.tmps); pure (if h : vs.size = 1 then vs[0] else .tuple vs) : Sem Value).run P w' = _
        rw [Array.mapM_eq_mapM_toList]
        simp only [Sem.run_bind, Sem.run_map, hvs]
        simp [Result.andThen]
      · by_cases h1 : vs.length = 1
        · rw [dif_pos h1]
          match xs, hl, h, hrep with
          | [x], _, h, hrep => exact ⟨_, x, _, _, ι', ro', a', rfl, h, (hrep 0 _ x (List.getElem?_eq_getElem (by omega)) rfl).1, hg'.base, hg'.objs, hg'.inj, hg'.fresh, hg'.ids⟩
          | [], hl, _, _ => exact absurd (h1.symm.trans hl) (by simp)
          | _ :: _ :: _, hl, _, _ => exact absurd (h1.symm.trans hl) (by simp)
        · rw [dif_neg h1]
          have h : k (.tup xs) S'.objs S'.next = some rr := by
            match xs, hl, h with
            | [x], hl, _ => exact absurd hl h1
            | [], _, h => exact h
            | _ :: _ :: _, _, h => exact h
          exact ⟨_, .tup xs, _, _, ι', ro', a', rfl, h, .tup _ _ (by simpa using hl) (fun j v x hv hx => (hrep j v x (by simpa using hv) hx).1), hg'.base, hg'.objs, hg'.inj, hg'.fresh, hg'.ids⟩
  cases e with
  | normal => exact fin hk
  | ret => exact fin hk
  | exit id => cases hk
  | goto l => cases hk
def TblOk (P : Program) (tbl : List (FuncId × Func)) : Prop := ∀ p ∈ tbl, P.funcs[p.1]? = some p.2 ∧ (p.2.name == "runtime.NumGoroutine") = false ∧ p.2.body.isNone = false
theorem TblOk.nil : TblOk P [] := fun p h => by cases h
theorem TblOk.cons {f : FuncId} {fn : Func} {l : List (FuncId × Func)} (h1 : P.funcs[f]? = some fn) (h2 : (fn.name == "runtime.NumGoroutine") = false) (h3 : fn.body.isNone = false) (hl : TblOk P l) : TblOk P ((f, fn) :: l) := fun p hp => by
  cases hp with
  | head => exact ⟨h1, h2, h3⟩
  | tail _ hp => exact hl p hp
theorem mkI_ok {O : Oracle E} (hO : OracleOk E O) (hmix : P.follows .mixedOrders = true) {tbl : List (FuncId × Func)} {hs : List (FuncId × Hint E)} (ht : TblOk P tbl) : ∀ n, InlOk E (mkI O tbl hs n)
  | 0 => fun f args objs next k rr h => by cases h
  | n + 1 => fun f args objs next k rr h => by
    have hO' : OracleOk E { O with inl := mkI O tbl hs n } := ⟨hO.1, hO.2.1, hO.2.2.1, hO.2.2.2.1, mkI_ok hO hmix ht n, hO.2.2.2.2.2⟩
    simp only [mkI] at h
    split at h
    · rename_i fn hl
      obtain ⟨hf, hname, hbody⟩ := ht _ (look_mem _ _ _ hl)
      split at h
      · rename_i c hc
        refine ⟨⟨fn, hf, hname, hbody⟩, fun w0 ro0 a w ι ro vals hb ho hi hfr hids hlen hargs => ?_⟩
        let w1 : Start := ⟨w0.w, w0.x, some ⟨w, ro, ι⟩, [], w0.h⟩
        refine (calls_of_wp (R := EndIP E k rr w1 ro0) hf hc ?_).mono fun e w' he => by
          obtain ⟨v, x, objs', next', ι', ro', a', h1, h2, h3, h4, h5, h6, h7, h8⟩ := he
          obtain ⟨q1, q2⟩ := h4.keep _ rfl
          exact ⟨v, x, objs', next', ι', ro', h1, h2, h3, ⟨h4.below, h4.rolt, h4.ronew, h4.ilt, hb.defers, fun q hq => by
            obtain ⟨p1, p2⟩ := hb.keep q hq
            exact ⟨fun k o h => ⟨(q1 k o (p1 k o h).1).1, (q1 k o (p1 k o h).1).2.trans (p1 k o h).2⟩, fun id gh h => q2 id gh (p2 id gh h)⟩, h4.held⟩, h5, h6, h7, h8, q1, q2⟩
        have hg : Gam E w1 ro0 (startI fn args objs next) { tmps := vals.toArray ++ Array.replicate (fn.ntmps - vals.toArray.size) undef, defers := [] } w ι ro := {
          base := ⟨hb.below, hb.rolt, hb.ronew, hb.ilt, rfl, (fun q hq => by cases hq; exact ⟨fun k o h => ⟨h, rfl⟩, fun _ _ h => h⟩), hb.held⟩
          size := by simp [startI, hlen]
          tmps := fun t x hl => by
            obtain ⟨_, y, hy, rfl⟩ := argsI_look hl
            rw [Nat.sub_zero] at hy
            have hlt : t < vals.length := by rw [hlen]; exact (List.getElem?_eq_some_iff.1 hy).1
            have hv := List.getElem?_eq_getElem hlt
            refine ⟨vals[t], by simp [Array.getElem?_append, hlt], ?_⟩
            have hr : Rep E w ro ι vals[t] y := hargs t _ y hv hy
            cases hcy : isCond y with
            | true => exact Rep.any _
            | false =>
              rw [cond_false]
              cases y <;> first | exact hr | cases hcy
          objs := ho
          inj := hi
          fresh := hfr
          ids := hids }
        exact evU_sound (n := (startI fn args objs next).n) hO' hmix c (startI fn args objs next) (endI fn k) _ _ w _ ro (argsI_noCond args 0) hg rfl h
          fun e S' a' w' ι' ro' _ h2 _ h4 => endI_sound h2 h4 rfl
      · cases h
    · cases h
theorem withI_ok {O : Oracle E} (hO : OracleOk E O) (hmix : P.follows .mixedOrders = true) {tbl : List (FuncId × Func)} {hs : List (FuncId × Hint E)} {d : Nat} (ht : TblOk P tbl) : OracleOk E (withI O tbl hs d) := ⟨hO.1, hO.2.1, hO.2.2.1, hO.2.2.2.1, mkI_ok hO hmix ht d, hO.2.2.2.2.2⟩
end
end Go.Proofs.YtinangndhcbjbaaDoor.Mir
namespace Go.Proofs.YtinangndhcbjbaaDoor.Mir
open Go Go.RowKit
section
variable {P : Program} {n : Nat} {r : Option Nat} {ops : Array Oper} {Q Q' : Exit → Act → World → Prop} {K K' : Act → World → Prop} {a : Act} {w : World}
abbrev Wd (r : Option Nat) : Fence := { Fence.wide with round := r }
theorem callsIn_wd {f : FuncId} {args : Array Value} {R : Ending → World → Prop} : CallsIn (Wd r) n P f args w R ↔ Calls P f args w R := callsIn_wide (n := n)
theorem oper_in {o : Oper} (ho : ∀ c, o.op ≠ .defer c) (h : o.wp P a w K Q) : o.wpIn (Wd r) n P a w K Q := by
  refine ⟨fun _ _ => trivial, ?_⟩
  rw [show o.semAt (Wd r).round a.eval = execOp a.eval o from Oper.semAt_eq r a.eval o ho]
  unfold Oper.wp at h
  generalize (execOp a.eval o).run P w = q at *
  cases q with
  | ok x w' =>
    cases x with
    | enter f args => exact ⟨fun h => (by cases h), callsIn_wd.2 h⟩
    | row row args => exact ⟨fun h => (by cases h), fun c cs _ => let ⟨v, w'', hr, hs⟩ := h c cs; ⟨v, w'', hr, stepsIn_wide.2 hs⟩⟩
    | round l f tmps assign body => exact h.elim
    | _ => exact h
  | halt x w' => cases x <;> exact h
theorem oper_monoQ {F : Fence} {o : Oper} (hK : ∀ a w, K a w → K' a w) (hp : ∀ c a w, Q (.panic c) a w → Q' (.panic c) a w) (hl : LetsOut Q → LetsOut Q') (hh : o.wpIn F n P a w K Q) : o.wpIn F n P a w K' Q' := by
  unfold Oper.wpIn at *
  refine ⟨hh.1, ?_⟩
  have hh := hh.2
  generalize (o.semAt F.round a.eval).run P w = q at *
  cases q with
  | ok x w' =>
    cases x <;> simp only [Oper.uponIn] at hh ⊢ <;>
      first
        | exact hK _ _ hh
        | exact ⟨hh.1, CallsIn.mono hh.2 (fun e w'' he => by cases e <;> first | exact hK _ _ he | exact hp _ _ _ he | exact hl he)⟩
        | exact ⟨hh.1, RowsIn.mono hh.2 (fun _ _ he => hK _ _ he)⟩
        | exact ⟨hh.1, RoundIn.mono hh.2 (fun e w'' he => by cases e <;> first | exact hK _ _ he | exact hp _ _ _ he | exact hl he)⟩
  | halt x w' => cases x <;> simp only [Oper.uponIn] at hh ⊢ <;> first | exact hp _ _ _ hh | exact hh
def noDefer : List Oper → Bool
  | [] => true
  | o :: r => (match o.op with | .defer _ => false | _ => true) && noDefer r
theorem list_in (hQ : ¬ LetsOut Q) : ∀ (l : List Oper) (a : Act) (w : World), noDefer l = true → wpList P ops Q l a w → wpListIn (Wd r) n P ops Q l a w
  | [], _, _, _, h => h
  | o :: rest, a, w, hd, h => by
    simp only [noDefer, Bool.and_eq_true] at hd
    unfold wpList at h
    unfold wpListIn
    split
    · rename_i hw
      rw [if_pos hw] at h
      rcases h with h | h
      · exact oper_monoQ (fun a w h => list_in hQ rest a w hd.2 h) (fun _ _ _ h => h) id (oper_in (fun c hc => by rw [hc] at hd; simp at hd) h)
      · exact absurd h.2 hQ
    · rename_i hw
      rw [if_neg hw] at h
      exact ⟨fun _ _ => trivial, list_in hQ rest _ w hd.2 h⟩
def Nm (K : Act → World → Prop) : Exit → Act → World → Prop
  | .normal, a, w => K a w
  | _, _, _ => False
theorem Nm.out : ¬ LetsOut (Nm K) := fun ⟨_, _, h⟩ => h
theorem list_app {F : Fence} {l2 : List Oper} : ∀ (l : List Oper) (a : Act) (w : World), wpListIn F n P ops (Nm (wpListIn F n P ops Q l2)) l a w → wpListIn F n P ops Q (l ++ l2) a w
  | [], _, _, h => h
  | o :: rest, a, w, h => by
    unfold wpListIn at h
    rw [List.cons_append]
    unfold wpListIn
    split
    · rename_i hw
      rw [if_pos hw] at h
      exact oper_monoQ (fun a w h => list_app rest a w h) (fun _ _ _ h => h.elim) (fun h => absurd h Nm.out) h
    · rename_i hw
      rw [if_neg hw] at h
      exact ⟨h.1, list_app rest _ w h.2⟩
end
section
variable {P : Program} {E : Env P} {O : Oracle E} {w0 : Start} {ro0 : Nat → Nat → Prop} {S : ASt E} {a : Act} {w w' : World} {ι ι' : Nat → Option Gh} {ro ro' : Nat → Nat → Prop} {n : Nat} {r : Option Nat} {Q : Exit → Act → World → Prop}
structure Kept (w : World) (ι : Nat → Option Gh) (ro : Nat → Nat → Prop) (w' : World) (ι' : Nat → Option Gh) (ro' : Nat → Nat → Prop) : Prop where
  cell : ∀ k o, ro k o → ro' k o ∧ w'.cell? ⟨k, o, none⟩ = w.cell? ⟨k, o, none⟩
  ext : ∀ id gh, ι id = some gh → ι' id = some gh
theorem Gam.rek (hg : Gam E w0 ro0 S a w ι ro) : Gam E { w0 with k := some ⟨w, ro, ι⟩ } ro0 S a w ι ro :=
  ⟨⟨hg.base.below, hg.base.rolt, hg.base.ronew, hg.base.ilt, hg.base.defers, (fun q hq => by cases hq; exact ⟨fun k o h => ⟨h, rfl⟩, fun _ _ h => h⟩), hg.base.held⟩, hg.size, hg.tmps, hg.objs, hg.inj, hg.fresh, hg.ids⟩
theorem Gam.unk (hk : w0.k = none) {S' : ASt E} {a' : Act} (hg : Gam E { w0 with k := some ⟨w, ro, ι⟩ } ro0 S' a' w' ι' ro') : Gam E w0 ro0 S' a' w' ι' ro' ∧ Kept w ι ro w' ι' ro' :=
  ⟨⟨⟨hg.base.below, hg.base.rolt, hg.base.ronew, hg.base.ilt, hg.base.defers, (fun q hq => by rw [hk] at hq; cases hq), hg.base.held⟩, hg.size, hg.tmps, hg.objs, hg.inj, hg.fresh, hg.ids⟩, ⟨fun k o h => ((hg.base.keep _ rfl).1 k o h), fun id gh h => (hg.base.keep _ rfl).2 id gh h⟩⟩
theorem Gam.frame (hg : Gam E w0 ro0 S a w ι ro) {a' : Act} {m nx : Nat} {tm : List (Nat × AV E)} (hd : a'.defers = w0.dl) (hs : a'.tmps.size = m) (ht : TmOk E w ro ι a' tm) (hx : S.next ≤ nx) : Gam E w0 ro0 ⟨m, tm, S.objs, nx⟩ a' w ι ro :=
  ⟨⟨hg.base.below, hg.base.rolt, hg.base.ronew, hg.base.ilt, hd, hg.base.keep, hg.base.held⟩, hs, ht, hg.objs, hg.inj, fun id h => hg.fresh id (Nat.le_trans hx h), fun id o h => Nat.lt_of_lt_of_le (hg.ids id o h) hx⟩
theorem Gam.turn (hg : Gam E w0 ro0 S a w ι ro) (hk : w0.k = none) {H : Nat → Option Obj} {dl : List Deferred} {a' : Act} (hd : a'.defers = dl) (ht : a'.tmps = a.tmps) (hos : w'.os = w.os) (htape : w'.tape = w.tape) (hout : w'.output = w.output) (hsize : w.heap.size ≤ w'.heap.size)
    (hframe : ∀ k, k < w.heap.size → w0.w.heap.size ≤ k ∧ (∀ id gh, ι id = some gh → gh.blk ≠ some k) ∨ w'.heap[k]? = w.heap[k]?) (hcell : ∀ k o, k < w.heap.size → w'.cell? ⟨k, o, none⟩ = w.cell? ⟨k, o, none⟩)
    (hH : ∀ k o, H k = some o → w'.heap[k]? = some o ∧ ∀ id gh, ι id = some gh → gh.blk ≠ some k) : Gam E { w0 with h := H, dl := dl } ro0 S a' w' ι ro := by
  have hfr : ∀ id gh g, ι id = some gh → gh.blk = some g → w'.heap[g]? = w.heap[g]? := fun id gh g h1 h2 => by
    rcases hframe g (hg.base.ilt id gh g h1 h2).2 with h | h
    · exact absurd h2 (h.2 id gh h1)
    · exact h
  have hc : ∀ k o, ro k o → w'.cell? ⟨k, o, none⟩ = w.cell? ⟨k, o, none⟩ := fun k o h => hcell k o (hg.base.rolt k o h)
  refine ⟨⟨⟨hos.trans hg.base.below.os, htape.trans hg.base.below.tape, hout.trans hg.base.below.output, Nat.le_trans hg.base.below.size hsize, fun k hk hne => ?_⟩, fun k o h => Nat.lt_of_lt_of_le (hg.base.rolt k o h) hsize, hg.base.ronew, fun id gh k h1 h2 => ⟨(hg.base.ilt id gh k h1 h2).1, Nat.lt_of_lt_of_le (hg.base.ilt id gh k h1 h2).2 hsize⟩, hd, (fun q hq => by
      have : w0.k = some q := hq
      rw [hk] at this; cases this), hH⟩, by rw [ht]; exact hg.size, fun t x hl => ?_, fun id o hl => ?_, hg.inj, hg.fresh, hg.ids⟩
  · refine Eq.trans ?_ (hg.base.below.block k hk hne)
    rcases hframe k (Nat.lt_of_lt_of_le hk hg.base.below.size) with h | h
    · exact absurd (show k < w0.w.heap.size from hk) (Nat.not_lt.2 h.1)
    · exact h
  · obtain ⟨v, h1, h2⟩ := hg.tmps t x hl
    rw [← ht] at h1 h2
    exact ⟨v, h1, h2.mono (fun _ _ h => h) hc (fun _ _ h => h)⟩
  · have h := hg.objs id o hl
    cases o with
    | dead => trivial
    | tail l =>
      intro hl
      obtain ⟨gh, xs, h1, h2, h3⟩ := h hl
      exact ⟨gh, xs, h1, h2.frame (fun g hb => hfr id gh g h1 hb), h3⟩
    | row t l =>
      obtain ⟨gh, xs, h1, h2, h3, h4, h5, h6, h7⟩ := h
      exact ⟨gh, xs, h1, h2, h3, h4, h5.frame (fun g hb => hfr id gh g h1 hb), fun i x j c hx hj => by
        obtain ⟨u, hu, hr⟩ := h6 i x j c hx hj
        exact ⟨u, hu, hr.mono (fun _ _ h => h) hc⟩, h7⟩
    | box cs =>
      obtain ⟨gh, g, vs, e, h1, h2, h3, h4, h5, h6, h7⟩ := h
      exact ⟨gh, g, vs, e, h1, h2, h3, (hfr id gh g h1 h3).trans h4, h5, fun j v c hv hj => ⟨(h6 j v c hv hj).1, (h6 j v c hv hj).2.mono (fun _ _ h => h) hc (fun _ _ h => h)⟩, h7⟩
def pickL {α : Type} (l : List (Nat × α)) : List Nat → List (Nat × α)
  | [] => []
  | i :: r => match look l i with
    | some x => (i, x) :: pickL l r
    | none => pickL l r
theorem look_pickL {α : Type} {l : List (Nat × α)} : ∀ {ids : List Nat} {t : Nat} {x : α}, look (pickL l ids) t = some x → look l t = some x
  | [], _, _, h => by cases h
  | i :: r, t, x, h => by
    unfold pickL at h
    split at h
    · rename_i y hy
      simp only [look] at h
      split at h
      · rename_i hb
        have := Nat.eq_of_beq_eq_true hb
        subst this
        cases h
        exact hy
      · exact look_pickL h
    · exact look_pickL h
theorem mem_pickL {α : Type} {l : List (Nat × α)} : ∀ {ids : List Nat} {p : Nat × α}, p ∈ pickL l ids → p ∈ l
  | [], _, h => by cases h
  | i :: r, p, h => by
    unfold pickL at h
    split at h
    · rename_i y hy
      cases h with
      | head => exact look_mem _ _ _ hy
      | tail _ h => exact mem_pickL h
    · exact mem_pickL h
def pk (ts ids : List Nat) (nx : Nat) (S : ASt E) : Option (ASt E) := match Nat.ble S.next nx with
  | true => some ⟨S.n, pickL S.tmps ts, pickL S.objs ids, nx⟩
  | false => none
theorem Gam.pick (hnc : NoCond S.tmps) (hg : Gam E w0 ro0 S a w ι ro) {ts ids : List Nat} {nx : Nat} {X : ASt E} (h : pk ts ids nx S = some X) : NoCond X.tmps ∧ Gam E w0 ro0 X a w ι ro ∧ X.n = S.n := by
  unfold pk at h
  split at h
  · rename_i hb
    cases h
    have hx := Nat.le_of_ble_eq_true hb
    exact ⟨fun p hp => hnc p (mem_pickL hp), ⟨hg.base, hg.size, fun t x hl => hg.tmps t x (look_pickL hl), fun id o hl => hg.objs id o (look_pickL hl),
      fun id id' o o' gh gh' k h1 h2 => hg.inj id id' o o' gh gh' k (look_pickL h1) (look_pickL h2), fun id h => hg.fresh id (Nat.le_trans hx h), fun id o h => Nat.lt_of_lt_of_le (hg.ids id o (look_pickL h)) hx⟩, rfl⟩
  · cases h
theorem step_pk (hO : OracleOk E O) (hk : w0.k = none) (hnc : NoCond S.tmps) (hg : Gam E w0 ro0 S a w ι ro) {ops : Array Oper} {L l l2 : List Oper} (hL : L = l ++ l2) (hd : noDefer l = true) {ts ids : List Nat} {nx : Nat} {X : ASt E} (h : evSeq O ops S.n S.tmps l [] S.objs S.next (pk ts ids nx) = some X)
    (hq : ∀ a' w' ι' ro', NoCond X.tmps → Gam E w0 ro0 X a' w' ι' ro' → Kept w ι ro w' ι' ro' → wpListIn (Wd r) n P ops Q l2 a' w') : wpListIn (Wd r) n P ops Q L a w := by
  subst hL
  refine list_app l a w (list_in Nm.out l a w hd (evSeq_sound (n := S.n) (glob := S.tmps) hO hnc (fun S1 a' w' ι' ro' h1 h2 h3 h4 => ?_) l [] S.objs S.next a w ι ro hg.rek h))
  obtain ⟨g1, g2⟩ := h2.unk hk
  obtain ⟨p1, p2, _⟩ := g1.pick h1 h4
  exact hq a' w' ι' ro' p1 p2 g2
theorem reg_pk (hO : OracleOk E O) (hk : w0.k = none) (hnc : NoCond S.tmps) (hg : Gam E w0 ro0 S a w ι ro) {ops : Array Oper} {id : Nat} (hd : noDefer ops.toList = true) (ts ids : List Nat) (nx : Nat) (X : ASt E) (h : evSeq O ops S.n S.tmps ops.toList [] S.objs S.next (pk ts ids nx) = some X)
    (hq : ∀ a' w' ι' ro', NoCond X.tmps → Gam E w0 ro0 X a' w' ι' ro' → Kept w ι ro w' ι' ro' → Q .normal a' w') : (Code.region id ops false).wpIn (Wd r) n P Q a w :=
  wpIn_region_list (step_pk (l2 := []) hO hk hnc hg (List.append_nil _).symm hd h hq)
theorem Kept.refl : Kept w ι ro w ι ro := ⟨fun _ _ h => ⟨h, rfl⟩, fun _ _ h => h⟩
theorem Kept.trans {w2 : World} {ι2 : Nat → Option Gh} {ro2 : Nat → Nat → Prop} (h : Kept w ι ro w' ι' ro') (h' : Kept w' ι' ro' w2 ι2 ro2) : Kept w ι ro w2 ι2 ro2 :=
  ⟨fun k o q => ⟨(h'.cell k o (h.cell k o q).1).1, (h'.cell k o (h.cell k o q).1).2.trans (h.cell k o q).2⟩, fun id gh q => h'.ext id gh (h.ext id gh q)⟩
theorem TmOk.kept {tm : List (Nat × AV E)} (h : TmOk E w ro ι a tm) (hk : Kept w ι ro w' ι' ro') : TmOk E w' ro' ι' a tm := fun t x hl => by
  obtain ⟨v, h1, h2⟩ := h t x hl
  exact ⟨v, h1, h2.mono (fun k o q => (hk.cell k o q).1) (fun k o q => (hk.cell k o q).2) hk.ext⟩
theorem cell_putObj (w : World) {l : Nat} {o o' : Obj} (hl : w.heap[l]? = some o) (h1 : o.isCells = false) (h2 : o'.isCells = false) (k q : Nat) : (w.putObj l o').cell? ⟨k, q, none⟩ = w.cell? ⟨k, q, none⟩ := by
  have hlt := (Array.getElem?_eq_some_iff.1 hl).1
  by_cases e : k = l
  · subst e
    unfold World.cell?
    rw [World.putObj_heap_same hlt, hl]
    cases o <;> cases o' <;> first | rfl | (cases h2; done) | (cases h1; done)
  · unfold World.cell?
    rw [World.putObj_heap_other e]
theorem Gam.putHeld (hg : Gam E w0 ro0 S a w ι ro) (hk : w0.k = none) {l : Nat} {o o' : Obj} (hl : w0.h l = some o) (hb : w0.w.heap.size ≤ l) (h1 : o.isCells = false) (h2 : o'.isCells = false) :
    Gam E { w0 with h := fun k => if k = l then some o' else w0.h k } ro0 S a (w.putObj l o') ι ro ∧ Kept w ι ro (w.putObj l o') ι ro := by
  obtain ⟨q1, q2⟩ := hg.base.held l o hl
  have hlt := (Array.getElem?_eq_some_iff.1 q1).1
  refine ⟨hg.turn hk (dl := w0.dl) hg.base.defers rfl rfl rfl rfl (by rw [World.putObj_size]; exact Nat.le_refl _) (fun k hk' => ?_) (fun k q _ => cell_putObj w q1 h1 h2 k q) (fun k p hp => ?_), ⟨fun k q h => ⟨h, cell_putObj w q1 h1 h2 k q⟩, fun _ _ h => h⟩⟩
  · by_cases e : k = l
    · subst e; exact .inl ⟨hb, q2⟩
    · exact .inr (World.putObj_heap_other e)
  · by_cases e : k = l
    · subst e
      simp only [if_true] at hp
      cases hp
      exact ⟨World.putObj_heap_same hlt, q2⟩
    · simp only [if_neg e] at hp
      obtain ⟨p1, p2⟩ := hg.base.held k p hp
      exact ⟨(World.putObj_heap_other e).trans p1, p2⟩
theorem Gam.put {m nx : Nat} {tm : List (Nat × AV E)} {objs : List (Nat × AObj E)} (hg : Gam E w0 ro0 ⟨m, tm, objs, nx⟩ a w ι ro) (hnc : NoCond tm) {d : Nat} {val : Value} {x : AV E} (hd : d < m) (hv : Rep E w ro ι val x) (hx : isCond x = false) :
    Gam E w0 ro0 ⟨m, (d, x) :: tm, objs, nx⟩ (a.put (some d) val) w ι ro ∧ NoCond ((d, x) :: tm) := by
  refine ⟨⟨⟨hg.base.below, hg.base.rolt, hg.base.ronew, hg.base.ilt, hg.base.defers, hg.base.keep, hg.base.held⟩, put_size.trans hg.size, fun t y hl => ?_, hg.objs, hg.inj, hg.fresh, hg.ids⟩, fun p hp => ?_⟩
  · simp only [look] at hl
    split at hl
    · rename_i hb
      have := Nat.eq_of_beq_eq_true hb
      subst this
      cases hl
      refine ⟨val, ?_, by cases x <;> first | exact hv | cases hx⟩
      have hs : a.tmps.size = m := hg.size
      simp [Act.put, hs, hd]
    · rename_i hb
      obtain ⟨v, h1, h2⟩ := hg.tmps t y hl
      have hne : d ≠ t := fun e => hb (by subst e; exact Nat.beq_refl d)
      refine ⟨v, (put_get (fun e => hne (by injection e))).trans h1, ?_⟩
      have hc := hnc _ (look_mem _ _ _ hl)
      cases y <;> first | exact h2 | cases hc
  · cases hp with
    | head => exact hx
    | tail _ hp => exact hnc p hp
theorem yield_op {l : Nat} {o : Oper} {cal : Operand} {xs : Array Operand} {ts : Array TypeId} (ho : o.op = .call { callee := .value cal, args := xs, argTypes := ts }) {fn : FuncId} {tmps : Array Value} {assign body : Code} {K : Act → World → Prop} (hc : a.eval cal = .func (.yield l) #[] #[])
    (hy : (Instr.yield l (xs.map a.eval)).run P w = .ok (.round l fn tmps assign body) w) (hr : RoundIn (Wd none) (n - 1) P l fn tmps assign body w fun e w' => ∃ v, e = .returned v ∧ K (a.put o.dst v) w') : o.wpIn (Wd none) n P a w K Q := by
  refine ⟨fun _ _ => trivial, ?_⟩
  have e : (o.semAt (Wd none).round a.eval).run P w = .ok (.round l fn tmps assign body) w := by
    rw [show o.semAt (Wd none).round a.eval = execOp a.eval o from Oper.semAt_none a.eval o]
    simp only [execOp, ho, resolve, hc, Deferred.ofValue, Sem.run_bind, Sem.run_pure, Result.andThen_ok, invoke]
    simpa using hy
  rw [e]
  exact ⟨fun h => (by cases h), hr.mono fun e w' he => by obtain ⟨v, rfl, hk⟩ := he; exact hk⟩
end
end Go.Proofs.YtinangndhcbjbaaDoor.Mir
namespace Go.Proofs.YtinangndhcbjbaaDoor.Mir
open Go Go.RowKit
section
variable {P : Program} {E : Env P} {O : Oracle E} {masks : Hint E} {f : FuncId} {fn : Func}
def fn14 (a0 t0 t1 t2 t3 : E.Ty) (ok : E.Den a0 → Bool) (F0 : E.Den a0 → E.Den t0) (F1 : E.Den a0 → E.Den t1) (F2 : E.Den a0 → E.Den t2) (F3 : E.Den a0 → E.Den t3) : FnW E
  | [x0] => match castV a0 x0 with
    | some x0 => some (ok x0, [⟨t0, F0 x0⟩, ⟨t1, F1 x0⟩, ⟨t2, F2 x0⟩, ⟨t3, F3 x0⟩])
    | _ => none
  | _ => none
def fn43 (a0 a1 a2 a3 t0 t1 t2 : E.Ty) (ok : E.Den a0 → E.Den a1 → E.Den a2 → E.Den a3 → Bool) (F0 : E.Den a0 → E.Den a1 → E.Den a2 → E.Den a3 → E.Den t0) (F1 : E.Den a0 → E.Den a1 → E.Den a2 → E.Den a3 → E.Den t1) (F2 : E.Den a0 → E.Den a1 → E.Den a2 → E.Den a3 → E.Den t2) : FnW E
  | [x0, x1, x2, x3] => match castV a0 x0, castV a1 x1, castV a2 x2, castV a3 x3 with
    | some x0, some x1, some x2, some x3 => some (ok x0 x1 x2 x3, [⟨t0, F0 x0 x1 x2 x3⟩, ⟨t1, F1 x0 x1 x2 x3⟩, ⟨t2, F2 x0 x1 x2 x3⟩])
    | _, _, _, _ => none
  | _ => none
end
end Go.Proofs.YtinangndhcbjbaaDoor.Mir
namespace Go.Proofs.YtinangndhcbjbaaDoor.Mir
open Go Go.RowKit
section
variable {P : Program} {E : Env P}
abbrev TL (E : Env P) := (t : E.Ty) × List (E.Den t)
def rowA (S : ASt E) : AV E → Option (TL E)
  | .row _ _ id => match look S.objs id with
    | some (.row t l) => some ⟨t, l⟩
    | _ => none
  | _ => none
def endM (fn : Func) (e : AExit) (S : ASt E) : Option (TL E) := match e with
  | .exit _ => none
  | .goto _ => none
  | _ => match fn.results.toList with
    | [r] => (match valA S r with
      | some v => rowA S v
      | none => none)
    | _ => none
def runLM (O : Oracle E) (h : Hint E) (G : Nat → ASt E → Option (TL E)) (fn : Func) (j : Nat) (S : ASt E) : Option (TL E) := match fn.body with
  | some c => segC O h G c j S (endM fn)
  | none => none
def EndMP (E : Env P) (res : TL E) (w : World) (gh : Gh) (ro : Nat → Nat → Prop) (e : Ending) (w' : World) : Prop := ∃ (gh' : Gh) (xs' : List Value), e = .returned gh'.v ∧ w.grownBy w' gh.blk ∧ gh'.n = res.2.length ∧ gh'.e = E.tid res.1 ∧ gh'.sz = E.size res.1 ∧ OwnT w' gh' xs' ∧
    RowD E w' (fun k o => ro k o ∨ (gh'.blk ≠ some k ∧ (gh.blk = some k ∨ w.heap.size ≤ k ∧ k < w'.heap.size))) res.1 xs' res.2 ∧ (∀ g, gh'.blk = some g → gh.blk = some g ∨ w.heap.size ≤ g)
def EndMOk (E : Env P) (fn : Func) (res : TL E) (w : World) (gh : Gh) (ro : Nat → Nat → Prop) : Exit → Act → World → Prop := bodyPost P fn (EndMP E res w gh ro)
theorem endM_sound {fn : Func} {res : TL E} {w : World} {gh : Gh} {ro : Nat → Nat → Prop} {e : AExit} {S' : ASt E} {a' : Act} {w' : World} {ι' : Nat → Option Gh} {ro' : Nat → Nat → Prop} (hg' : Gam E ⟨w, gh.blk, none, [], fun _ => none⟩ ro S' a' w' ι' ro') (hk : endM fn e S' = some res) :
    EndMOk E fn res w gh ro e.toExit a' w' := by
  have fin : ∀ r, fn.results.toList = [r] → (match valA S' r with | some v => rowA S' v | none => none) = some res → a'.defers = [] ∧ ∃ v, (results fn a'.tmps).run P w' = .ok v w' ∧
      EndMP E res w gh ro (.returned v) w' := by
    intro r hr hres
    cases hv : valA S' r with
    | none => rw [hv] at hres; cases hres
    | some v =>
      rw [hv] at hres
      simp only at hres
      obtain ⟨u, hrun, hrep⟩ := valA_rep hg' hv
      unfold rowA at hres
      split at hres
      · rename_i t0 n0 id
        split at hres
        · rename_i t l hob
          cases hres
          cases hrep with
          | row gh' _ _ ad cap hi h2 h3 h4 h5 =>
            obtain ⟨gh2, xs, hi2, hn, hge, hgs, hown, hrow, hnro⟩ := hg'.objs id _ hob
            rw [hi] at hi2
            cases hi2
            refine ⟨hg'.base.defers, gh'.v, ?_, gh', xs, rfl, hg'.base.below, hn, hge, hgs, hown, hrow.mono (fun k o hk => ?_) (fun _ _ _ => rfl), fun g hg => ?_⟩
            · show (do let vs ← fn.results.mapM (resV a'.tmps); pure (if h : vs.size = 1 then vs[0] else .tuple vs) : Sem Value).run P w' = _
              rw [Array.mapM_eq_mapM_toList, hr]
              simp only [Sem.run_bind, Sem.run_map, List.mapM_cons, List.mapM_nil, hrun, Result.andThen_ok, Sem.run_pure]
              simp [Result.andThen]
            · have hne : gh'.blk ≠ some k := fun e => hnro k e o hk
              rcases hg'.base.ronew k o hk with h | h | h
              · exact .inl h
              · exact .inr ⟨hne, .inr ⟨h, hg'.base.rolt k o hk⟩⟩
              · exact .inr ⟨hne, .inl h⟩
            · rcases (hg'.base.ilt id gh' g hi hg).1 with h | h
              · exact .inr h
              · exact .inl h
        · cases hres
      · cases hres
  cases e with
  | normal =>
    unfold endM at hk
    split at hk
    · rename_i h; cases h
    · rename_i h; cases h
    · split at hk
      · rename_i r hr; exact fin r hr hk
      · cases hk
  | ret =>
    unfold endM at hk
    split at hk
    · rename_i h; cases h
    · rename_i h; cases h
    · split at hk
      · rename_i r hr; exact fin r hr hk
      · cases hk
  | exit id => cases hk
  | goto l => cases hk
def EvM (E : Env P) (fn : Func) (res : TL E) (i : Nat) (S : ASt E) : Prop :=
  ∀ (w0 : World) (gh : Gh) ro0 n c, fn.body = some c → HdOk E ⟨w0, gh.blk, none, [], fun _ => none⟩ ro0 n c (EndMOk E fn res w0 gh ro0) i S
open Classical in
noncomputable def GrM (E : Env P) (fn : Func) (res : TL E) (i : Nat) (S : ASt E) : Option (TL E) := if EvM E fn res i S then some res else none
theorem GrM_ev {fn : Func} {res r : TL E} {i : Nat} {S : ASt E} (h : GrM E fn res i S = some r) : EvM E fn r i S := by
  unfold GrM at h
  split at h
  · cases h; assumption
  · cases h
variable {O : Oracle E} {h : Hint E}
theorem EvM.step (hO : OracleOk E O) (hmix : P.follows .mixedOrders = true) {fn : Func} {res : TL E} {j : Nat} {S : ASt E} (hs : runLM O h (GrM E fn res) fn j S = some res) : EvM E fn res j S := by
  intro w0 gh ro0 n c hc
  unfold runLM at hs
  rw [hc] at hs
  exact segC_sound hO hmix (fun i S hi => ⟨rfl, GrM_ev hi w0 gh ro0 n c hc⟩) (fun e S' a' w' ι' ro' _ h2 _ h4 => endM_sound h2 h4) hs
variable {f : FuncId} {fn : Func}
end
end Go.Proofs.YtinangndhcbjbaaDoor.Mir
namespace Go.Proofs
open Go.Shelf
def Tryd.lays156_ren : Go.Shelf.Ren := ⟨fun | 156 => 33 | 165 => 38 | 166 => 39 | 169 => 40 | 240 => 43 | 241 => 44 | 276 => 49 | 277 => 50 | n => n, fun | 31 => 30 | 9 => 9 | 3 => 3 | 4 => 4 | 0 => 0 | 20 => 20 | 72 => 54 | 76 => 58 | 70 => 52 | 37 => 47 | 75 => 57 | 127 => 61 | 164 => 69 | 5 => 5 | 80 => 60 | n => n, fun | n => n⟩
theorem Tryd.lays156 : Go.Proofs.Lays.n156 Tryd.prog Tryd.lays156_ren := {
  mixed := by kernel_rfl
  f156 := Tryd.func33.trans (congrArg some (by kernel_rfl))
  f165 := Tryd.func38.trans (congrArg some (by kernel_rfl))
  f166 := Tryd.func39.trans (congrArg some (by kernel_rfl))
  f169 := Tryd.func40.trans (congrArg some (by kernel_rfl))
  f240 := Tryd.func43.trans (congrArg some (by kernel_rfl))
  f241 := Tryd.func44.trans (congrArg some (by kernel_rfl))
  f276 := Tryd.func49.trans (congrArg some (by kernel_rfl))
  f277 := Tryd.func50.trans (congrArg some (by kernel_rfl))
  t0 := Tryd.underlying0
  a0 := Tryd.isAgg0
  z0 := Tryd.sizeOf0
  v0 := Tryd.zeroValue0
  t3 := Tryd.underlying3
  a3 := Tryd.isAgg3
  z3 := Tryd.sizeOf3
  v3 := Tryd.zeroValue3
  t4 := Tryd.underlying4
  a4 := Tryd.isAgg4
  z4 := Tryd.sizeOf4
  v4 := Tryd.zeroValue4
  t9 := Tryd.underlying9
  a9 := Tryd.isAgg9
  z9 := Tryd.sizeOf9
  v9 := Tryd.zeroValue9
  t20 := Tryd.underlying20
  a20 := Tryd.isAgg20
  z20 := Tryd.sizeOf20
  v20 := Tryd.zeroValue20
  t31 := Tryd.underlying30
  a31 := Tryd.isAgg30
  z31 := Tryd.sizeOf30
  v31 := Tryd.zeroValue30
  t37 := Tryd.underlying47
  a37 := Tryd.isAgg47
  z37 := Tryd.sizeOf47
  v37 := Tryd.zeroValue47
  t70 := Tryd.underlying52
  a70 := Tryd.isAgg52
  z70 := Tryd.sizeOf52
  v70 := Tryd.zeroValue52
  t72 := Tryd.underlying54
  a72 := Tryd.isAgg54
  z72 := Tryd.sizeOf54
  v72 := Tryd.zeroValue54
  t75 := Tryd.underlying57
  a75 := Tryd.isAgg57
  z75 := Tryd.sizeOf57
  v75 := Tryd.zeroValue57
  t76 := Tryd.underlying58
  a76 := Tryd.isAgg58
  z76 := Tryd.sizeOf58
  v76 := Tryd.zeroValue58
  t127 := Tryd.underlying61
  a127 := Tryd.isAgg61
  z127 := Tryd.sizeOf61
  v127 := Tryd.zeroValue61
  t164 := Tryd.underlying69
  a164 := Tryd.isAgg69
  z164 := Tryd.sizeOf69
  v164 := Tryd.zeroValue69 }
theorem Tryd.Builder_Extra_156 : Builder.Extra Tryd.prog Tryd.lays156_ren := {
  sizeBuilder := by kernel_rfl
  liesBuilder := by kernel_rfl
  t5 := Tryd.underlying5
  a5 := Tryd.isAgg5
  z5 := Tryd.sizeOf5
  v5 := Tryd.zeroValue5
  infoByte := by kernel_rfl
  cellsByte := by kernel_rfl
  sizeByte := by kernel_rfl
  neB5 := by decide }
open Go.RowKit in
theorem Tryd.strings_Join_none (a : Option Addr) (c : Nat) (sep : ByteArray) (w : World) :
    Calls Tryd.prog 33 #[.slice a 0 c, .string sep] w fun e w' => e = .returned (.string ⟨#[]⟩) ∧ w' = w := Any.strings_Join_none Tryd.lays156 Tryd.Builder_Extra_156 a c sep w
open Go.RowKit in
theorem Tryd.strings_Join (bk o c : Nat) (xs : List ByteArray) (sep : ByteArray) (w : World) (hcells : ∀ (j : Nat) x, xs[j]? = some x → w.cell? ⟨bk, o + j, none⟩ = some (.string x)) (hbk : bk < w.heap.size) (hN : xs.length ≤ 140737488355328) (hcap : xs.length ≤ c) (hlen : (Lib.join (xs.map (·.data.toList)) sep.data.toList).length ≤ 140737488355328) :
    Calls Tryd.prog 33 #[.slice (some ⟨bk, o, none⟩) xs.length c, .string sep] w fun e w' => e = .returned (.string ⟨(Lib.join (xs.map (·.data.toList)) sep.data.toList).toArray⟩) ∧ Below w.heap.size w w' := Any.strings_Join Tryd.lays156 Tryd.Builder_Extra_156 bk o c xs sep w hcells hbk hN hcap hlen
def Tryd.lays219_ren : Go.Shelf.Ren := ⟨fun | 219 => 42 | 217 => 45 | 225 => 46 | 224 => 47 | 267 => 48 | 266 => 51 | 314 => 52 | n => n, fun | 9 => 9 | 3 => 3 | 4 => 4 | 5 => 5 | 46 => 63 | 146 => 73 | 51 => 72 | n => n, fun | 1 => 2 | n => n⟩
theorem Tryd.lays219 : Go.Proofs.Lays.n219 Tryd.prog Tryd.lays219_ren := {
  mixed := by kernel_rfl
  f217 := Tryd.func45.trans (congrArg some (by kernel_rfl))
  f219 := Tryd.func42.trans (congrArg some (by kernel_rfl))
  f224 := Tryd.func47.trans (congrArg some (by kernel_rfl))
  f225 := Tryd.func46.trans (congrArg some (by kernel_rfl))
  f266 := Tryd.func51.trans (congrArg some (by kernel_rfl))
  f267 := Tryd.func48.trans (congrArg some (by kernel_rfl))
  f314 := Tryd.func52.trans (congrArg some (by kernel_rfl))
  t3 := Tryd.underlying3
  a3 := Tryd.isAgg3
  z3 := Tryd.sizeOf3
  v3 := Tryd.zeroValue3
  t4 := Tryd.underlying4
  a4 := Tryd.isAgg4
  z4 := Tryd.sizeOf4
  v4 := Tryd.zeroValue4
  t5 := Tryd.underlying5
  a5 := Tryd.isAgg5
  z5 := Tryd.sizeOf5
  v5 := Tryd.zeroValue5
  t9 := Tryd.underlying9
  a9 := Tryd.isAgg9
  z9 := Tryd.sizeOf9
  v9 := Tryd.zeroValue9
  t46 := Tryd.underlying63
  a46 := Tryd.isAgg63
  z46 := Tryd.sizeOf63
  v46 := Tryd.zeroValue63
  t51 := Tryd.underlying72
  a51 := Tryd.isAgg72
  z51 := Tryd.sizeOf72
  v51 := Tryd.zeroValue72
  t146 := Tryd.underlying73
  a146 := Tryd.isAgg73
  z146 := Tryd.sizeOf73
  v146 := Tryd.zeroValue73
  g1 := by kernel_rfl }
open Go.RowKit Go.Lib in
theorem Tryd.stringslite_Index_one (s : ByteArray) (c : UInt8) (w : World) :
    Calls Tryd.prog 42 #[.string s, .string ⟨#[c]⟩] w fun e w' => e = .returned (.int .i64 (Lib.indexByte s.data.toList c)) ∧ w' = w := Any.stringslite_Index_one Tryd.lays219 s c w
end Go.Proofs
namespace Go.Proofs.YtinangndhcbjbaaDoor.Pl
open Go
end Go.Proofs.YtinangndhcbjbaaDoor.Pl
namespace Go.Proofs.YtinangndhcbjbaaDoor.Rf
open Go Go.RowKit Go.Sort Go.Proofs.YtinangndhcbjbaaDoor.Mir
inductive Ty where
  | str | int | bool | l_str | l_int | byte | fn43 | api_Errno | u64 | l_byte
  deriving DecidableEq
abbrev Den : Ty → Type
  | .str => List UInt8
  | .int => Int
  | .bool => Bool
  | .l_str => List (List UInt8)
  | .l_int => List Int
  | .byte => Int
  | .fn43 => Nat
  | .api_Errno => Int
  | .u64 => Int
  | .l_byte => List Int
def tid : Ty → TypeId
  | .str => 9
  | .int => 3
  | .bool => 4
  | .l_str => 30
  | .l_int => 37
  | .byte => 5
  | .fn43 => 43
  | .api_Errno => 34
  | .u64 => 44
  | .l_byte => 47
def code : TypeId → Option Ty
  | 9 => some .str
  | 3 => some .int
  | 4 => some .bool
  | 30 => some .l_str
  | 37 => some .l_int
  | 5 => some .byte
  | 43 => some .fn43
  | 34 => some .api_Errno
  | 44 => some .u64
  | 47 => some .l_byte
  | _ => none
def agg : Ty → Bool
  | .str => false
  | .int => false
  | .bool => false
  | .l_str => false
  | .l_int => false
  | .byte => false
  | .fn43 => false
  | .api_Errno => false
  | .u64 => false
  | .l_byte => false
def size : Ty → Nat
  | .str => 1
  | .int => 1
  | .bool => 1
  | .l_str => 1
  | .l_int => 1
  | .byte => 1
  | .fn43 => 1
  | .api_Errno => 1
  | .u64 => 1
  | .l_byte => 1
def bytes : Ty → Nat
  | .str => 16
  | .int => 8
  | .bool => 1
  | .l_str => 24
  | .l_int => 24
  | .byte => 1
  | .fn43 => 8
  | .api_Errno => 8
  | .u64 => 8
  | .l_byte => 24
def cells : (t : Ty) → Den t → List (DVal Den)
  | .str, x => [.str x]
  | .int, x => [.int .i64 x]
  | .bool, x => [.bool x]
  | .l_str, x => [.slice .str x]
  | .l_int, x => [.slice .int x]
  | .byte, x => [.int .u8 x]
  | .fn43, x => [.raw (.func (.func x) #[] #[])]
  | .api_Errno, x => [.int .i64 x]
  | .u64, x => [.int .u64 x]
  | .l_byte, x => [.slice .byte x]
def dec : DecidableEq Ty := inferInstance
def fd_str : List (DVal Den) → Option (Den .str)
  | [c] => dStr c
  | _ => none
def fd_int : List (DVal Den) → Option (Den .int)
  | [c] => dInt .i64 c
  | _ => none
def fd_bool : List (DVal Den) → Option (Den .bool)
  | [c] => dBl c
  | _ => none
def fd_l_str : List (DVal Den) → Option (Den .l_str)
  | [c] => dSl dec .str c
  | _ => none
def fd_l_int : List (DVal Den) → Option (Den .l_int)
  | [c] => dSl dec .int c
  | _ => none
def fd_byte : List (DVal Den) → Option (Den .byte)
  | [c] => dInt .u8 c
  | _ => none
def fd_fn43 : List (DVal Den) → Option (Den .fn43)
  | [c] => dFn c
  | _ => none
def fd_api_Errno : List (DVal Den) → Option (Den .api_Errno)
  | [c] => dInt .i64 c
  | _ => none
def fd_u64 : List (DVal Den) → Option (Den .u64)
  | [c] => dInt .u64 c
  | _ => none
def fd_l_byte : List (DVal Den) → Option (Den .l_byte)
  | [c] => dSl dec .byte c
  | _ => none
def fold : (t : Ty) → List (DVal Den) → Option (Den t)
  | .str => fd_str
  | .int => fd_int
  | .bool => fd_bool
  | .l_str => fd_l_str
  | .l_int => fd_l_int
  | .byte => fd_byte
  | .fn43 => fd_fn43
  | .api_Errno => fd_api_Errno
  | .u64 => fd_u64
  | .l_byte => fd_l_byte
def dflt : (t : Ty) → Den t
  | .str => []
  | .int => (0 : Int)
  | .bool => false
  | .l_str => []
  | .l_int => []
  | .byte => (0 : Int)
  | .fn43 => (0 : Nat)
  | .api_Errno => (0 : Int)
  | .u64 => (0 : Int)
  | .l_byte => []
def byteT : (t : Ty) → Option (Den t → Int)
  | .byte => some fun x => x
  | _ => none
theorem byte_ok : ∀ t f, byteT t = some f → ∀ x, cells t x = [.int .u8 (f x)] := by
  intro t f h x
  cases t <;> first | (cases h; rfl) | cases h
def byteU : (t : Ty) → Option (Int → Den t)
  | .byte => some fun x => x
  | _ => none
theorem byteU_ok : ∀ t g, byteU t = some g → ∀ n, cells t (g n) = [.int .u8 n] := by
  intro t g h n
  cases t <;> first | (cases h; rfl) | cases h
theorem fd_str_ok : ∀ cs x, fd_str cs = some x → CsLe cs (cells .str x) := by
  intro cs x h
  match cs, h with
  | [c], h => exact ⟨dStr_le h, trivial⟩
theorem fd_int_ok : ∀ cs x, fd_int cs = some x → CsLe cs (cells .int x) := by
  intro cs x h
  match cs, h with
  | [c], h => exact ⟨dInt_le h, trivial⟩
theorem fd_bool_ok : ∀ cs x, fd_bool cs = some x → CsLe cs (cells .bool x) := by
  intro cs x h
  match cs, h with
  | [c], h => exact ⟨dBl_le h, trivial⟩
theorem fd_l_str_ok : ∀ cs x, fd_l_str cs = some x → CsLe cs (cells .l_str x) := by
  intro cs x h
  match cs, h with
  | [c], h => exact ⟨dSl_le h, trivial⟩
theorem fd_l_int_ok : ∀ cs x, fd_l_int cs = some x → CsLe cs (cells .l_int x) := by
  intro cs x h
  match cs, h with
  | [c], h => exact ⟨dSl_le h, trivial⟩
theorem fd_byte_ok : ∀ cs x, fd_byte cs = some x → CsLe cs (cells .byte x) := by
  intro cs x h
  match cs, h with
  | [c], h => exact ⟨dInt_le h, trivial⟩
theorem fd_fn43_ok : ∀ cs x, fd_fn43 cs = some x → CsLe cs (cells .fn43 x) := by
  intro cs x h
  match cs, h with
  | [c], h => exact ⟨dFn_le h, trivial⟩
theorem fd_api_Errno_ok : ∀ cs x, fd_api_Errno cs = some x → CsLe cs (cells .api_Errno x) := by
  intro cs x h
  match cs, h with
  | [c], h => exact ⟨dInt_le h, trivial⟩
theorem fd_u64_ok : ∀ cs x, fd_u64 cs = some x → CsLe cs (cells .u64 x) := by
  intro cs x h
  match cs, h with
  | [c], h => exact ⟨dInt_le h, trivial⟩
theorem fd_l_byte_ok : ∀ cs x, fd_l_byte cs = some x → CsLe cs (cells .l_byte x) := by
  intro cs x h
  match cs, h with
  | [c], h => exact ⟨dSl_le h, trivial⟩
theorem fold_ok : ∀ t cs x, fold t cs = some x → CsLe cs (cells t x) := fun t => match t with
  | .str => fd_str_ok
  | .int => fd_int_ok
  | .bool => fd_bool_ok
  | .l_str => fd_l_str_ok
  | .l_int => fd_l_int_ok
  | .byte => fd_byte_ok
  | .fn43 => fd_fn43_ok
  | .api_Errno => fd_api_Errno_ok
  | .u64 => fd_u64_ok
  | .l_byte => fd_l_byte_ok
theorem code_ok : ∀ i t, code i = some t → i = tid t := by
  intro i t h
  unfold code at h
  split at h <;> first | (cases h; rfl) | cases h
theorem info_ok : ∀ t, ∃ i z, Tryd.prog.info? (tid t) = some i ∧ i.size = size t ∧ i.bytes = bytes t ∧ i.zero = some z ∧ z.cells.size = size t := by
  intro t
  refine info_of ?_ rfl
  cases t <;> kernel_rfl
theorem agg_ok : ∀ t, isAggT Tryd.prog (tid t) = agg t := by intro t; cases t <;> kernel_rfl
theorem und_ok : ∀ t, (Tryd.prog.underlying (tid t)).isSome = true := by intro t; cases t <;> kernel_rfl
abbrev E : Env Tryd.prog where
  Ty := Ty
  dec := dec
  Den := Den
  tid := tid
  code := code
  agg := agg
  size := size
  bytes := bytes
  cells := cells
  fold := fold
  code_ok := code_ok
  info_ok := info_ok
  agg_ok := agg_ok
  und_ok := und_ok
  size_pos := by intro t; cases t <;> decide
  bytes_pos := by intro t; cases t <;> decide
  one := by intro t h; cases t <;> first | rfl | cases h
  cells_len := by intro t x; cases t <;> rfl
  dflt := dflt
  fold_ok := fold_ok
  byteT := byteT
  byteU := byteU
  byte_ok := byte_ok
  byteU_ok := byteU_ok
theorem mix : Tryd.prog.follows .mixedOrders = true := by kernel_rfl
def w64 (n : Int) : Int := IntKind.wrap .i64 n
theorem w64_id {n : Int} (h : -9223372036854775808 ≤ n) (h' : n ≤ 9223372036854775807) : w64 n = n := by
  unfold w64
  rw [IntKind.wrap_i64]
  omega
theorem gd {α : Type} (l : List α) (d : α) (i : Nat) (h : i < l.length) : List.getD l (Int.toNat (i : Int)) d = l[i] := by
  rw [Int.toNat_natCast, List.getD, List.getElem?_eq_getElem h]; rfl
theorem d0 (i : Nat) : decide ((0 : Int) ≤ (i : Int)) = true := by simp
theorem dlt {i n : Nat} (h : i < n) : decide ((i : Int) < (n : Int)) = true := by simp only [decide_eq_true_eq]; omega
theorem dge {i n : Nat} (h : n ≤ i) : decide ((i : Int) < (n : Int)) = false := by simp only [decide_eq_false_iff_not]; omega
theorem dT {p : Prop} [Decidable p] (h : p) : decide p = true := decide_eq_true h
theorem dF {p : Prop} [Decidable p] (h : ¬ p) : decide p = false := decide_eq_false h
theorem eqT {a b : Int} (h : a = b) : (a == b) = true := by simp [h]
theorem eqF {a b : Int} (h : a ≠ b) : (a == b) = false := by simpa using h
theorem wu64 (n : Int) : IntKind.wrap .u64 n = n % 18446744073709551616 := by simp [IntKind.wrap, IntKind.bits, IntKind.signed]
theorem wu8 (n : Int) : IntKind.wrap .u8 n = n % 256 := by simp [IntKind.wrap, IntKind.bits, IntKind.signed]
theorem u64_id {n : Int} (h : 0 ≤ n) (h' : n < 18446744073709551616) : IntKind.wrap .u64 n = n := by rw [wu64]; omega
theorem u8_id {n : Int} (h : 0 ≤ n) (h' : n < 256) : IntKind.wrap .u8 n = n := by rw [wu8]; omega
def dg (n : Nat) : UInt8 := UInt8.ofNat (48 + n)
def digsF : Nat → Nat → List UInt8
  | 0, _ => []
  | f + 1, u => if u < 10 then [dg u] else digsF f (u / 10) ++ [dg (u % 10)]
def digs (u : Nat) : List UInt8 := digsF 20 u
theorem digsF_len : ∀ (f u : Nat), (digsF f u).length ≤ f
  | 0, _ => Nat.le_refl _
  | f + 1, u => by
    unfold digsF
    split
    · simp
    · have := digsF_len f (u / 10)
      rw [List.length_append, List.length_singleton]; omega
def textV (n : Int) : List UInt8 := bif decide (n < 0) then 45 :: digs (-n).toNat else digs n.toNat
theorem textV_len (n : Int) : (textV n).length ≤ 21 := by
  unfold textV digs
  cases decide (n < 0) with
  | true => have := digsF_len 20 (-n).toNat; simp only [cond_true, List.length_cons]; omega
  | false => have := digsF_len 20 n.toNat; simp only [cond_false]; omega
theorem dg_eq {n : Int} (h : 0 ≤ n) (h' : n < 10) : UInt8.ofNat (Int.toNat (IntKind.wrap .u8 (IntKind.wrap .u64 (48 + n)))) = dg n.toNat := by
  rw [u64_id (by omega) (by omega), u8_id (by omega) (by omega)]
  unfold dg
  rw [show (48 + n).toNat = 48 + n.toNat from by omega]
def okI (n : Int) : Bool := decide (-9223372036854775808 ≤ n ∧ n ≤ 9223372036854775807)
def isD (c : UInt8) : Bool := decide (48 ≤ c.toNat) && decide (c.toNat ≤ 57)
def lead0 (s : List UInt8) : Bool := match s with
  | [] => true
  | [_] => false
  | c :: _ => c == 48
def wholeB (s : List UInt8) : Bool := !(lead0 s) && s.all isD
def okL1 (s : List UInt8) : Bool := decide (s.length ≤ 1000000)
theorem okL1_iff {s : List UInt8} : okL1 s = true ↔ s.length ≤ 1000000 := by simp [okL1]
theorem bad1_eq (c : UInt8) : (bif decide ((c.toNat : Int) < 48) then true else decide (57 < (c.toNat : Int))) = !(isD c) := by
  unfold isD
  by_cases h1 : c.toNat < 48
  · rw [dT (by omega), dF (show ¬ 48 ≤ c.toNat by omega)]; rfl
  · by_cases h2 : 57 < c.toNat
    · rw [dF (by omega), dT (by omega), dT (show 48 ≤ c.toNat by omega), dF (by omega)]; rfl
    · rw [dF (by omega), dF (by omega), dT (show 48 ≤ c.toNat by omega), dT (by omega)]; rfl
theorem c48 (c : UInt8) : ((c.toNat : Int) == (48 : Int)) = (c == 48) := by
  by_cases h : c = 48
  · subst h; rfl
  · rw [eqF (fun e => h (UInt8.toNat_inj.1 (show c.toNat = 48 by have e : (c.toNat : Int) = 48 := e; omega)))]
    simpa using h
def valN : List UInt8 → Nat → Nat
  | [], n => n
  | c :: t, n => valN t (n * 10 + (c.toNat - 48))
theorem valN_ge : ∀ (s : List UInt8) (n : Nat), n ≤ valN s n
  | [], n => Nat.le_refl _
  | c :: t, n => Nat.le_trans (by omega) (valN_ge t (n * 10 + (c.toNat - 48)))
theorem isD_iff {c : UInt8} : isD c = true ↔ 48 ≤ c.toNat ∧ c.toNat ≤ 57 := by simp [isD]
def overP (most : Int) (n : Nat) : Int × Int := bif decide (most < (n : Int)) then (0, 9) else ((n : Int), 0)
theorem overP_lt {most : Int} {n : Nat} (h : most < (n : Int)) : overP most n = (0, 9) := by unfold overP; rw [dT h]; rfl
theorem overP_ge {most : Int} {n : Nat} (h : ¬ most < (n : Int)) : overP most n = ((n : Int), 0) := by unfold overP; rw [dF h]; rfl
def cntP (s : List UInt8) (most : Int) : Int × Int := bif !(wholeB s) then (0, 3) else overP most (valN s 0)
def cntV (s : List UInt8) (most : Int) : Int := (cntP s most).1
def cntE (s : List UInt8) (most : Int) : Int := (cntP s most).2
def kindV (c : Int) : Int := bif (bif decide (97 ≤ c) then decide (c ≤ 122) else false) then 1 else bif (bif decide (65 ≤ c) then decide (c ≤ 90) else false) then 2 else bif (bif decide (48 ≤ c) then decide (c ≤ 57) else false) then 3 else bif c == 95 then 4 else bif c == 45 then 5 else bif c == 46 then 6 else 0
noncomputable def kindf_W : FnW E := fn1 (E := E) .byte .int (fun _ => true) kindV
def kindf_id : FuncId := 21
noncomputable def kindf_O : Oracle E := orac [] [] [] []
noncomputable def kindf_H : Hint E := Hint.mk [] [] [] [] [] 5 []
noncomputable def kindf_t (_G : Nat → ASt E → Option (List (TV E))) (x0 : Int) : Option (List (TV E)) :=
  bif (bif (decide ((97 : Int) ≤ x0)) then (decide (x0 ≤ (122 : Int))) else false) then some [⟨.int, (1 : Int)⟩] else (bif (bif (decide ((65 : Int) ≤ x0)) then (decide (x0 ≤ (90 : Int))) else false) then some [⟨.int, (2 : Int)⟩] else (bif (bif (decide ((48 : Int) ≤ x0)) then (decide (x0 ≤ (57 : Int))) else false) then some [⟨.int, (3 : Int)⟩] else (bif (x0 == (95 : Int)) then some [⟨.int, (4 : Int)⟩] else (bif (x0 == (45 : Int)) then some [⟨.int, (5 : Int)⟩] else (bif (x0 == (46 : Int)) then some [⟨.int, (6 : Int)⟩] else some [⟨.int, (0 : Int)⟩])))))
theorem kindf_e (G : Nat → ASt E → Option (List (TV E))) (x0 : Int) : runE kindf_O kindf_H G Tryd.f21 [⟨.byte, x0⟩] = kindf_t G x0 := by kernel_rfl
theorem kindf_f : Tryd.prog.funcs[21]? = some Tryd.f21 := by kernel_rfl
theorem kindf_n : (Tryd.f21.name == "runtime.NumGoroutine") = false := by kernel_rfl
theorem kindf_b : Tryd.f21.body.isNone = false := by kernel_rfl
theorem kindf_hO : OracleOk E kindf_O := orac_ok .nil .nil .nil .nil
theorem kindf_ok_of (h : ∀ (x0 : Int), kindf_t (Gr E Tryd.f21 [⟨.int, kindV x0⟩]) x0 = some [⟨.int, kindV x0⟩]) : FnOk E kindf_id kindf_W := fn1_ok kindf_hO mix kindf_f kindf_n kindf_b (fun x0 _ => (kindf_e _ x0).trans (h x0))
theorem kindf_ok : FnOk E kindf_id kindf_W := kindf_ok_of fun c => by
  simp only [kindf_t, kindV]
  cases (bif decide (97 ≤ c) then decide (c ≤ 122) else false) <;> cases (bif decide (65 ≤ c) then decide (c ≤ 90) else false) <;> cases (bif decide (48 ≤ c) then decide (c ≤ 57) else false) <;> cases c == 95 <;> cases c == 45 <;> cases c == 46 <;> rfl
def nmL (f : UInt8 → Bool → Bool) : List UInt8 → Bool → Bool
  | [], _ => true
  | c :: t, b => bif f c b then false else nmL f t false
def kc (c : UInt8) : Int := kindV (Int.ofNat c.toNat)
def badS (c : UInt8) (b : Bool) : Bool := bif kc c == 0 then true else (bif b then decide (3 < kc c) else false)
def badP (c : UInt8) (b : Bool) : Bool := bif (bif (bif kc c == 0 then true else kc c == 2) then true else kc c == 6) then true else (bif b then decide (3 < kc c) else false)
def nameV (f : UInt8 → Bool → Bool) (s : List UInt8) : Bool := bif (bif decide ((s.length : Int) < 1) then true else decide ((24 : Int) < (s.length : Int))) then false else nmL f s true
noncomputable def rservice_W : FnW E := fn1 (E := E) .str .bool (fun _ => true) (nameV badS)
def rservice_id : FuncId := 12
noncomputable def rservice_O : Oracle E := orac [(21, kindf_W)] [] [] []
noncomputable def rservice_H : Hint E := Hint.mk [(0, [0, 3])] [] [] [] [] 5 []
noncomputable def rservice_C0 (v0 : List UInt8) (v1 : Int) : ASt E := ASt.mk 33 [(0, .d (.str v0)), (3, .d (.int .i64 v1))] [] 0
noncomputable def rservice_t (G : Nat → ASt E → Option (List (TV E))) (x0 : List UInt8) : Option (List (TV E)) :=
  bif (bif (decide ((x0.length : Int) < (1 : Int))) then true else (decide ((24 : Int) < (x0.length : Int)))) then some [⟨.bool, false⟩] else G 0 (rservice_C0 x0 0)
theorem rservice_e (G : Nat → ASt E → Option (List (TV E))) (x0 : List UInt8) : runE rservice_O rservice_H G Tryd.f12 [⟨.str, x0⟩] = rservice_t G x0 := by kernel_rfl
noncomputable def rservice_t0 (G : Nat → ASt E → Option (List (TV E))) (v0 : List UInt8) (v1 : Int) : Option (List (TV E)) :=
  bif (decide (v1 < (v0.length : Int))) then (bif (decide ((0 : Int) ≤ v1) && decide (v1 < (v0.length : Int))) then (bif (bif ((kindV (((List.getD v0 (Int.toNat v1) 0).toNat : Nat) : Int)) == (0 : Int)) then true else (bif (v1 == (0 : Int)) then (decide ((3 : Int) < (kindV (((List.getD v0 (Int.toNat v1) 0).toNat : Nat) : Int)))) else false)) then some [⟨.bool, false⟩] else G 0 (rservice_C0 v0 (w64 (v1 + (1 : Int))))) else none) else some [⟨.bool, true⟩]
theorem rservice_l0 (G : Nat → ASt E → Option (List (TV E))) (v0 : List UInt8) (v1 : Int) : runL rservice_O rservice_H G Tryd.f12 0 (rservice_C0 v0 v1) = rservice_t0 G v0 v1 := by kernel_rfl
theorem rservice_f : Tryd.prog.funcs[12]? = some Tryd.f12 := by kernel_rfl
theorem rservice_n : (Tryd.f12.name == "runtime.NumGoroutine") = false := by kernel_rfl
theorem rservice_b : Tryd.f12.body.isNone = false := by kernel_rfl
theorem rservice_hO : OracleOk E rservice_O := orac_ok (.cons kindf_ok .nil) .nil .nil .nil
theorem rservice_s0 {res : List (TV E)} {v0 : List UInt8} {v1 : Int} (h : rservice_t0 (Gr E Tryd.f12 res) v0 v1 = some res) : Ev E Tryd.f12 res 0 (rservice_C0 v0 v1) := Ev.step rservice_hO mix ((rservice_l0 _ v0 v1).trans h)
theorem rservice_ok_of (h : ∀ (x0 : List UInt8), rservice_t (Gr E Tryd.f12 [⟨.bool, (nameV badS) x0⟩]) x0 = some [⟨.bool, (nameV badS) x0⟩]) : FnOk E rservice_id rservice_W := fn1_ok rservice_hO mix rservice_f rservice_n rservice_b (fun x0 _ => (rservice_e _ x0).trans (h x0))
theorem rservice_loop (s : List UInt8) (hs : s.length ≤ 24) : ∀ (m i : Nat), s.length - i = m → i ≤ s.length →
    Ev E Tryd.f12 [⟨.bool, nmL badS (s.drop i) ((i : Int) == 0)⟩] 0 (rservice_C0 s i) := by
  intro m
  induction m with
  | zero =>
    intro i h1 h2
    refine rservice_s0 ?_
    simp only [rservice_t0, dge (show s.length ≤ i by omega), cond_false, List.drop_eq_nil_of_le (show s.length ≤ i by omega)]
    rfl
  | succ m ih =>
    intro i h1 h2
    have hi : i < s.length := by omega
    have e3 : w64 ((i : Int) + 1) = ((i + 1 : Nat) : Int) := by rw [w64_id (by omega) (by omega)]; omega
    refine rservice_s0 ?_
    simp only [rservice_t0, dlt hi, d0, gd s _ i hi, Bool.and_self, cond_true, e3]
    rw [← List.getElem_cons_drop hi]
    simp only [nmL]
    change (bif badS s[i] ((i : Int) == 0) then _ else _) = _
    cases badS s[i] ((i : Int) == 0) with
    | true => rfl
    | false =>
      have := Gr_of (ih (i + 1) (by omega) (by omega))
      rw [eqF (show ((i + 1 : Nat) : Int) ≠ 0 by omega)] at this
      exact this
theorem rservice_ok : FnOk E rservice_id rservice_W := rservice_ok_of fun s => by
  simp only [rservice_t, nameV]
  cases hg : (bif decide ((s.length : Int) < 1) then true else decide ((24 : Int) < (s.length : Int))) with
  | true => rfl
  | false =>
    have hs : s.length ≤ 24 := by
      by_cases a : (s.length : Int) < 1
      · omega
      · rw [dF a, cond_false] at hg
        have : ¬ (24 : Int) < (s.length : Int) := by simpa using hg
        omega
    have := Gr_of (rservice_loop s hs s.length 0 (by omega) (by omega))
    rw [List.drop_zero] at this
    exact this
noncomputable def rproject_W : FnW E := fn1 (E := E) .str .bool (fun _ => true) (nameV badP)
def rproject_id : FuncId := 11
noncomputable def rproject_O : Oracle E := orac [(21, kindf_W)] [] [] []
noncomputable def rproject_H : Hint E := Hint.mk [(0, [0, 3])] [] [] [] [] 5 []
noncomputable def rproject_C0 (v0 : List UInt8) (v1 : Int) : ASt E := ASt.mk 41 [(0, .d (.str v0)), (3, .d (.int .i64 v1))] [] 0
noncomputable def rproject_t (G : Nat → ASt E → Option (List (TV E))) (x0 : List UInt8) : Option (List (TV E)) :=
  bif (bif (decide ((x0.length : Int) < (1 : Int))) then true else (decide ((24 : Int) < (x0.length : Int)))) then some [⟨.bool, false⟩] else G 0 (rproject_C0 x0 0)
theorem rproject_e (G : Nat → ASt E → Option (List (TV E))) (x0 : List UInt8) : runE rproject_O rproject_H G Tryd.f11 [⟨.str, x0⟩] = rproject_t G x0 := by kernel_rfl
noncomputable def rproject_t0 (G : Nat → ASt E → Option (List (TV E))) (v0 : List UInt8) (v1 : Int) : Option (List (TV E)) :=
  bif (decide (v1 < (v0.length : Int))) then (bif (decide ((0 : Int) ≤ v1) && decide (v1 < (v0.length : Int))) then (bif (bif (bif (bif ((kindV (((List.getD v0 (Int.toNat v1) 0).toNat : Nat) : Int)) == (0 : Int)) then true else ((kindV (((List.getD v0 (Int.toNat v1) 0).toNat : Nat) : Int)) == (2 : Int))) then true else ((kindV (((List.getD v0 (Int.toNat v1) 0).toNat : Nat) : Int)) == (6 : Int))) then true else (bif (v1 == (0 : Int)) then (decide ((3 : Int) < (kindV (((List.getD v0 (Int.toNat v1) 0).toNat : Nat) : Int)))) else false)) then some [⟨.bool, false⟩] else G 0 (rproject_C0 v0 (w64 (v1 + (1 : Int))))) else none) else some [⟨.bool, true⟩]
theorem rproject_l0 (G : Nat → ASt E → Option (List (TV E))) (v0 : List UInt8) (v1 : Int) : runL rproject_O rproject_H G Tryd.f11 0 (rproject_C0 v0 v1) = rproject_t0 G v0 v1 := by kernel_rfl
theorem rproject_f : Tryd.prog.funcs[11]? = some Tryd.f11 := by kernel_rfl
theorem rproject_n : (Tryd.f11.name == "runtime.NumGoroutine") = false := by kernel_rfl
theorem rproject_b : Tryd.f11.body.isNone = false := by kernel_rfl
theorem rproject_hO : OracleOk E rproject_O := orac_ok (.cons kindf_ok .nil) .nil .nil .nil
theorem rproject_s0 {res : List (TV E)} {v0 : List UInt8} {v1 : Int} (h : rproject_t0 (Gr E Tryd.f11 res) v0 v1 = some res) : Ev E Tryd.f11 res 0 (rproject_C0 v0 v1) := Ev.step rproject_hO mix ((rproject_l0 _ v0 v1).trans h)
theorem rproject_ok_of (h : ∀ (x0 : List UInt8), rproject_t (Gr E Tryd.f11 [⟨.bool, (nameV badP) x0⟩]) x0 = some [⟨.bool, (nameV badP) x0⟩]) : FnOk E rproject_id rproject_W := fn1_ok rproject_hO mix rproject_f rproject_n rproject_b (fun x0 _ => (rproject_e _ x0).trans (h x0))
theorem rproject_loop (s : List UInt8) (hs : s.length ≤ 24) : ∀ (m i : Nat), s.length - i = m → i ≤ s.length →
    Ev E Tryd.f11 [⟨.bool, nmL badP (s.drop i) ((i : Int) == 0)⟩] 0 (rproject_C0 s i) := by
  intro m
  induction m with
  | zero =>
    intro i h1 h2
    refine rproject_s0 ?_
    simp only [rproject_t0, dge (show s.length ≤ i by omega), cond_false, List.drop_eq_nil_of_le (show s.length ≤ i by omega)]
    rfl
  | succ m ih =>
    intro i h1 h2
    have hi : i < s.length := by omega
    have e3 : w64 ((i : Int) + 1) = ((i + 1 : Nat) : Int) := by rw [w64_id (by omega) (by omega)]; omega
    refine rproject_s0 ?_
    simp only [rproject_t0, dlt hi, d0, gd s _ i hi, Bool.and_self, cond_true, e3]
    rw [← List.getElem_cons_drop hi]
    simp only [nmL]
    change (bif badP s[i] ((i : Int) == 0) then _ else _) = _
    cases badP s[i] ((i : Int) == 0) with
    | true => rfl
    | false =>
      have := Gr_of (ih (i + 1) (by omega) (by omega))
      rw [eqF (show ((i + 1 : Nat) : Int) ≠ 0 by omega)] at this
      exact this
theorem rproject_ok : FnOk E rproject_id rproject_W := rproject_ok_of fun s => by
  simp only [rproject_t, nameV]
  cases hg : (bif decide ((s.length : Int) < 1) then true else decide ((24 : Int) < (s.length : Int))) with
  | true => rfl
  | false =>
    have hs : s.length ≤ 24 := by
      by_cases a : (s.length : Int) < 1
      · omega
      · rw [dF a, cond_false] at hg
        have : ¬ (24 : Int) < (s.length : Int) := by simpa using hg
        omega
    have := Gr_of (rproject_loop s hs s.length 0 (by omega) (by omega))
    rw [List.drop_zero] at this
    exact this
def smallB (c : Int) : Bool := bif decide (97 ≤ c) then decide (c ≤ 122) else false
def numberB (c : Int) : Bool := bif decide (48 ≤ c) then decide (c ≤ 57) else false
def letterB (c : Int) : Bool := bif smallB c then true else (bif decide (65 ≤ c) then decide (c ≤ 90) else false)
noncomputable def nsmall_W : FnW E := fn1 (E := E) .byte .bool (fun _ => true) smallB
def nsmall_id : FuncId := 25
noncomputable def nsmall_O : Oracle E := orac [] [] [] []
noncomputable def nsmall_H : Hint E := Hint.mk [] [] [] [] [] 5 []
noncomputable def nsmall_t (_G : Nat → ASt E → Option (List (TV E))) (x0 : Int) : Option (List (TV E)) :=
  some [⟨.bool, (bif (decide ((97 : Int) ≤ x0)) then (decide (x0 ≤ (122 : Int))) else false)⟩]
theorem nsmall_e (G : Nat → ASt E → Option (List (TV E))) (x0 : Int) : runE nsmall_O nsmall_H G Tryd.f25 [⟨.byte, x0⟩] = nsmall_t G x0 := by kernel_rfl
theorem nsmall_f : Tryd.prog.funcs[25]? = some Tryd.f25 := by kernel_rfl
theorem nsmall_n : (Tryd.f25.name == "runtime.NumGoroutine") = false := by kernel_rfl
theorem nsmall_b : Tryd.f25.body.isNone = false := by kernel_rfl
theorem nsmall_hO : OracleOk E nsmall_O := orac_ok .nil .nil .nil .nil
theorem nsmall_ok_of (h : ∀ (x0 : Int), nsmall_t (Gr E Tryd.f25 [⟨.bool, smallB x0⟩]) x0 = some [⟨.bool, smallB x0⟩]) : FnOk E nsmall_id nsmall_W := fn1_ok nsmall_hO mix nsmall_f nsmall_n nsmall_b (fun x0 _ => (nsmall_e _ x0).trans (h x0))
theorem nsmall_ok : FnOk E nsmall_id nsmall_W := nsmall_ok_of fun c => rfl
noncomputable def nnumber_W : FnW E := fn1 (E := E) .byte .bool (fun _ => true) numberB
def nnumber_id : FuncId := 26
noncomputable def nnumber_O : Oracle E := orac [] [] [] []
noncomputable def nnumber_H : Hint E := Hint.mk [] [] [] [] [] 5 []
noncomputable def nnumber_t (_G : Nat → ASt E → Option (List (TV E))) (x0 : Int) : Option (List (TV E)) :=
  some [⟨.bool, (bif (decide ((48 : Int) ≤ x0)) then (decide (x0 ≤ (57 : Int))) else false)⟩]
theorem nnumber_e (G : Nat → ASt E → Option (List (TV E))) (x0 : Int) : runE nnumber_O nnumber_H G Tryd.f26 [⟨.byte, x0⟩] = nnumber_t G x0 := by kernel_rfl
theorem nnumber_f : Tryd.prog.funcs[26]? = some Tryd.f26 := by kernel_rfl
theorem nnumber_n : (Tryd.f26.name == "runtime.NumGoroutine") = false := by kernel_rfl
theorem nnumber_b : Tryd.f26.body.isNone = false := by kernel_rfl
theorem nnumber_hO : OracleOk E nnumber_O := orac_ok .nil .nil .nil .nil
theorem nnumber_ok_of (h : ∀ (x0 : Int), nnumber_t (Gr E Tryd.f26 [⟨.bool, numberB x0⟩]) x0 = some [⟨.bool, numberB x0⟩]) : FnOk E nnumber_id nnumber_W := fn1_ok nnumber_hO mix nnumber_f nnumber_n nnumber_b (fun x0 _ => (nnumber_e _ x0).trans (h x0))
theorem nnumber_ok : FnOk E nnumber_id nnumber_W := nnumber_ok_of fun c => rfl
noncomputable def nletter_W : FnW E := fn1 (E := E) .byte .bool (fun _ => true) letterB
def nletter_id : FuncId := 29
noncomputable def nletter_O : Oracle E := orac [(25, nsmall_W)] [] [] []
noncomputable def nletter_H : Hint E := Hint.mk [] [] [] [] [] 5 []
noncomputable def nletter_t (_G : Nat → ASt E → Option (List (TV E))) (x0 : Int) : Option (List (TV E)) :=
  some [⟨.bool, (bif (smallB x0) then true else (bif (decide ((65 : Int) ≤ x0)) then (decide (x0 ≤ (90 : Int))) else false))⟩]
theorem nletter_e (G : Nat → ASt E → Option (List (TV E))) (x0 : Int) : runE nletter_O nletter_H G Tryd.f29 [⟨.byte, x0⟩] = nletter_t G x0 := by kernel_rfl
theorem nletter_f : Tryd.prog.funcs[29]? = some Tryd.f29 := by kernel_rfl
theorem nletter_n : (Tryd.f29.name == "runtime.NumGoroutine") = false := by kernel_rfl
theorem nletter_b : Tryd.f29.body.isNone = false := by kernel_rfl
theorem nletter_hO : OracleOk E nletter_O := orac_ok (.cons nsmall_ok .nil) .nil .nil .nil
theorem nletter_ok_of (h : ∀ (x0 : Int), nletter_t (Gr E Tryd.f29 [⟨.bool, letterB x0⟩]) x0 = some [⟨.bool, letterB x0⟩]) : FnOk E nletter_id nletter_W := fn1_ok nletter_hO mix nletter_f nletter_n nletter_b (fun x0 _ => (nletter_e _ x0).trans (h x0))
theorem nletter_ok : FnOk E nletter_id nletter_W := nletter_ok_of fun c => rfl
def pdgt (c : UInt8) : Int := (c.toNat : Int) - 48
theorem pdgt_w (c : UInt8) : w64 (w64 (c.toNat : Int) - 48) = pdgt c := by
  have := c.toNat_lt
  show w64 (w64 (c.toNat : Int) - 48) = _
  rw [w64_id (n := (c.toNat : Int)) (by omega) (by omega), w64_id (by omega) (by omega)]
  rfl
def povr (most d n : Int) (over : Bool) : Bool := bif (bif over then true else decide (Int.tdiv (most - d) 10 < n)) then true else decide (most < d)
def pwh (most : Int) : List UInt8 → Int → Bool → Int × Int
  | [], n, over => bif over then (0, 9) else (n, 0)
  | c :: t, n, over => bif (bif decide (pdgt c < 0) then true else decide (9 < pdgt c)) then (0, 3) else bif !(povr most (pdgt c) n over) then pwh most t (n * 10 + pdgt c) (povr most (pdgt c) n over) else pwh most t n (povr most (pdgt c) n over)
def pbadW (s : List UInt8) : Bool := bif s == [] then true else (bif decide ((1 : Int) < (s.length : Int)) then (((List.getD s 0 0).toNat : Int) == 48) else false)
def pwholeP (s : List UInt8) (most : Int) : Int × Int := bif pbadW s then (0, 3) else pwh most s 0 false
def pwholeV (s : List UInt8) (most : Int) : Int := (pwholeP s most).1
def pwholeE (s : List UInt8) (most : Int) : Int := (pwholeP s most).2
def pokW (s : List UInt8) (most : Int) : Bool := decide (s.length ≤ 1000000) && decide (0 ≤ most) && decide (most ≤ 9007199254740992)
theorem pokW_iff {s : List UInt8} {most : Int} : pokW s most = true ↔ (s.length ≤ 1000000 ∧ 0 ≤ most) ∧ most ≤ 9007199254740992 := by simp [pokW]
noncomputable def pwhole_W : FnW E := fn22 (E := E) .str .int .int .api_Errno pokW pwholeV pwholeE
def pwhole_id : FuncId := 31
noncomputable def pwhole_O : Oracle E := orac [] [] [] []
noncomputable def pwhole_H : Hint E := Hint.mk [(0, [0, 1, 6, 7, 23, 24])] [] [] [] [] 5 []
noncomputable def pwhole_C0 (v0 : List UInt8) (v1 v2 : Int) (v3 : Bool) (v4 v5 : Int) : ASt E := ASt.mk 61 [(0, .d (.str v0)), (1, .d (.int .i64 v1)), (6, .d (.int .i64 v2)), (7, .d (.bool v3)), (23, .d (.int .i64 v4)), (24, .d (.int .i64 v5))] [] 0
noncomputable def pwhole_t (G : Nat → ASt E → Option (List (TV E))) (x0 : List UInt8) (x1 : Int) : Option (List (TV E)) :=
  bif ((decide ((0 : Int) ≤ (0 : Int)) && decide ((0 : Int) < (x0.length : Int))) || !((!(x0 == ([] : List UInt8))) && (decide ((1 : Int) < (x0.length : Int))))) then (bif (bif (x0 == ([] : List UInt8)) then true else (bif (decide ((1 : Int) < (x0.length : Int))) then ((((List.getD x0 (Int.toNat 0) 0).toNat : Nat) : Int) == (48 : Int)) else false)) then some [⟨.int, (0 : Int)⟩, ⟨.api_Errno, (3 : Int)⟩] else G 0 (pwhole_C0 x0 x1 0 false (x0.length : Int) 0)) else none
theorem pwhole_e (G : Nat → ASt E → Option (List (TV E))) (x0 : List UInt8) (x1 : Int) : runE pwhole_O pwhole_H G Tryd.f31 [⟨.str, x0⟩, ⟨.int, x1⟩] = pwhole_t G x0 x1 := by kernel_rfl
noncomputable def pwhole_t0 (G : Nat → ASt E → Option (List (TV E))) (v0 : List UInt8) (v1 v2 : Int) (v3 : Bool) (v4 v5 : Int) : Option (List (TV E)) :=
  bif (decide (v5 < v4)) then (bif (decide ((0 : Int) ≤ v5) && decide (v5 < (v0.length : Int))) then (bif (bif (decide ((w64 ((w64 (((List.getD v0 (Int.toNat v5) 0).toNat : Nat) : Int)) - (48 : Int))) < (0 : Int))) then true else (decide ((9 : Int) < (w64 ((w64 (((List.getD v0 (Int.toNat v5) 0).toNat : Nat) : Int)) - (48 : Int)))))) then some [⟨.int, (0 : Int)⟩, ⟨.api_Errno, (3 : Int)⟩] else (bif ((!((10 : Int) == (0 : Int))) || !(!v3)) then (bif (!(bif (bif v3 then true else (decide ((w64 (Int.tdiv (w64 (v1 - (w64 ((w64 (((List.getD v0 (Int.toNat v5) 0).toNat : Nat) : Int)) - (48 : Int))))) (10 : Int))) < v2))) then true else (decide (v1 < (w64 ((w64 (((List.getD v0 (Int.toNat v5) 0).toNat : Nat) : Int)) - (48 : Int))))))) then G 0 (pwhole_C0 v0 v1 (w64 ((w64 (v2 * (10 : Int))) + (w64 ((w64 (((List.getD v0 (Int.toNat v5) 0).toNat : Nat) : Int)) - (48 : Int))))) (bif (bif v3 then true else (decide ((w64 (Int.tdiv (w64 (v1 - (w64 ((w64 (((List.getD v0 (Int.toNat v5) 0).toNat : Nat) : Int)) - (48 : Int))))) (10 : Int))) < v2))) then true else (decide (v1 < (w64 ((w64 (((List.getD v0 (Int.toNat v5) 0).toNat : Nat) : Int)) - (48 : Int)))))) v4 (w64 (v5 + (1 : Int)))) else G 0 (pwhole_C0 v0 v1 v2 (bif (bif v3 then true else (decide ((w64 (Int.tdiv (w64 (v1 - (w64 ((w64 (((List.getD v0 (Int.toNat v5) 0).toNat : Nat) : Int)) - (48 : Int))))) (10 : Int))) < v2))) then true else (decide (v1 < (w64 ((w64 (((List.getD v0 (Int.toNat v5) 0).toNat : Nat) : Int)) - (48 : Int)))))) v4 (w64 (v5 + (1 : Int))))) else none)) else none) else (bif v3 then some [⟨.int, (0 : Int)⟩, ⟨.api_Errno, (9 : Int)⟩] else some [⟨.int, v2⟩, ⟨.api_Errno, (0 : Int)⟩])
theorem pwhole_l0 (G : Nat → ASt E → Option (List (TV E))) (v0 : List UInt8) (v1 v2 : Int) (v3 : Bool) (v4 v5 : Int) : runL pwhole_O pwhole_H G Tryd.f31 0 (pwhole_C0 v0 v1 v2 v3 v4 v5) = pwhole_t0 G v0 v1 v2 v3 v4 v5 := by kernel_rfl
theorem pwhole_f : Tryd.prog.funcs[31]? = some Tryd.f31 := by kernel_rfl
theorem pwhole_n : (Tryd.f31.name == "runtime.NumGoroutine") = false := by kernel_rfl
theorem pwhole_b : Tryd.f31.body.isNone = false := by kernel_rfl
theorem pwhole_hO : OracleOk E pwhole_O := orac_ok .nil .nil .nil .nil
theorem pwhole_s0 {res : List (TV E)} {v0 : List UInt8} {v1 v2 : Int} {v3 : Bool} {v4 v5 : Int} (h : pwhole_t0 (Gr E Tryd.f31 res) v0 v1 v2 v3 v4 v5 = some res) : Ev E Tryd.f31 res 0 (pwhole_C0 v0 v1 v2 v3 v4 v5) := Ev.step pwhole_hO mix ((pwhole_l0 _ v0 v1 v2 v3 v4 v5).trans h)
theorem pwhole_ok_of (h : ∀ (x0 : List UInt8) (x1 : Int), pokW x0 x1 = true → pwhole_t (Gr E Tryd.f31 [⟨.int, pwholeV x0 x1⟩, ⟨.api_Errno, pwholeE x0 x1⟩]) x0 x1 = some [⟨.int, pwholeV x0 x1⟩, ⟨.api_Errno, pwholeE x0 x1⟩]) : FnOk E pwhole_id pwhole_W := fn22_ok pwhole_hO mix pwhole_f pwhole_n pwhole_b (fun x0 x1 hk => (pwhole_e _ x0 x1).trans (h x0 x1 hk))
theorem pwhole_loop (s : List UInt8) (most : Int) (hs : s.length ≤ 1000000) (h0 : 0 ≤ most) (h1 : most ≤ 9007199254740992) : ∀ (m i : Nat) (n : Int) (over : Bool), s.length - i = m → i ≤ s.length → 0 ≤ n → n ≤ most →
    Ev E Tryd.f31 [⟨.int, (pwh most (s.drop i) n over).1⟩, ⟨.api_Errno, (pwh most (s.drop i) n over).2⟩] 0 (pwhole_C0 s most n over s.length i) := by
  intro m
  induction m with
  | zero =>
    intro i n over g1 g2 g3 g4
    refine pwhole_s0 ?_
    simp only [pwhole_t0, dge (show s.length ≤ i by omega), cond_false, List.drop_eq_nil_of_le (show s.length ≤ i by omega), pwh]
    cases over <;> rfl
  | succ m ih =>
    intro i n over g1 g2 g3 g4
    have hi : i < s.length := by omega
    have e3 : w64 ((i : Int) + 1) = ((i + 1 : Nat) : Int) := by rw [w64_id (by omega) (by omega)]; omega
    refine pwhole_s0 ?_
    simp only [pwhole_t0, dlt hi, d0, gd s _ i hi, Bool.and_self, cond_true, pdgt_w, e3]
    rw [← List.getElem_cons_drop hi]
    simp only [pwh]
    generalize pdgt s[i] = d
    cases hb : (bif decide (d < 0) then true else decide (9 < d)) with
    | true => rfl
    | false =>
      have hd : ¬ d < 0 ∧ ¬ 9 < d := by
        by_cases a1 : d < 0
        · rw [dT a1] at hb; cases hb
        · rw [dF a1, cond_false] at hb
          exact ⟨a1, by simpa using hb⟩
      have q : ((most - d).tdiv 10).natAbs = (most - d).natAbs / 10 := Int.natAbs_tdiv _ _
      have w1 : w64 (most - d) = most - d := w64_id (by omega) (by omega)
      have w2 : w64 ((most - d).tdiv 10) = (most - d).tdiv 10 := w64_id (by omega) (by omega)
      have e10 : ((!((10 : Int) == 0)) || !(!over)) = true := rfl
      simp only [cond_false, w1, w2, e10, cond_true]
      change (bif !(povr most d n over) then Gr E _ _ 0 (pwhole_C0 s most (w64 (w64 (n * 10) + d)) (povr most d n over) s.length ((i + 1 : Nat) : Int)) else Gr E _ _ 0 (pwhole_C0 s most n (povr most d n over) s.length ((i + 1 : Nat) : Int))) = _
      cases ho : povr most d n over with
      | true =>
        simp only [Bool.not_true, cond_false]
        exact Gr_of (ih (i + 1) n true (by omega) (by omega) g3 g4)
      | false =>
        have hf : ¬ (most - d).tdiv 10 < n ∧ ¬ most < d := by
          unfold povr at ho
          cases over with
          | true => cases ho
          | false =>
            by_cases a1 : (most - d).tdiv 10 < n
            · rw [dT a1] at ho; cases ho
            · rw [dF a1] at ho
              exact ⟨a1, by simpa using ho⟩
        have hq : (most - d).tdiv 10 = (most - d) / 10 := Int.tdiv_eq_ediv_of_nonneg (by omega)
        have hle : n * 10 + d ≤ most := by omega
        simp only [Bool.not_false, cond_true]
        rw [w64_id (n := n * 10) (by omega) (by omega), w64_id (n := n * 10 + d) (by omega) (by omega)]
        exact Gr_of (ih (i + 1) (n * 10 + d) false (by omega) (by omega) (by omega) hle)
theorem pwhole_ok : FnOk E pwhole_id pwhole_W := pwhole_ok_of fun s most hk => by
  obtain ⟨⟨hs, h0⟩, h1⟩ := pokW_iff.1 hk
  have hc : ((decide ((0 : Int) ≤ 0) && decide ((0 : Int) < (s.length : Int))) || !((!(s == ([] : List UInt8))) && (decide ((1 : Int) < (s.length : Int))))) = true := by
    cases s with
    | nil => rfl
    | cons c t => rw [dT (show (0 : Int) < ((c :: t).length : Int) by rw [List.length_cons]; omega)]; rfl
  simp only [pwhole_t]
  rw [hc, cond_true]
  change (bif pbadW s then _ else _) = _
  unfold pwholeV pwholeE pwholeP
  cases hb : pbadW s with
  | true => rfl
  | false =>
    simp only [cond_false]
    have := Gr_of (pwhole_loop s most hs h0 h1 s.length 0 0 false (by omega) (by omega) (Int.le_refl _) h0)
    rw [List.drop_zero] at this
    exact this
noncomputable def dcount_W : FnW E := fn22 (E := E) .str .int .int .api_Errno pokW pwholeV pwholeE
def dcount_id : FuncId := 16
noncomputable def dcount_O : Oracle E := orac [(31, pwhole_W)] [] [] []
noncomputable def dcount_H : Hint E := Hint.mk [] [] [] [] [] 5 []
noncomputable def dcount_t (_G : Nat → ASt E → Option (List (TV E))) (x0 : List UInt8) (x1 : Int) : Option (List (TV E)) :=
  bif (decide (x1 < (0 : Int))) then some [⟨.int, (0 : Int)⟩, ⟨.api_Errno, (2 : Int)⟩] else (bif (pokW x0 x1) then some [⟨.int, (pwholeV x0 x1)⟩, ⟨.api_Errno, (pwholeE x0 x1)⟩] else none)
theorem dcount_e (G : Nat → ASt E → Option (List (TV E))) (x0 : List UInt8) (x1 : Int) : runE dcount_O dcount_H G Tryd.f16 [⟨.str, x0⟩, ⟨.int, x1⟩] = dcount_t G x0 x1 := by kernel_rfl
theorem dcount_f : Tryd.prog.funcs[16]? = some Tryd.f16 := by kernel_rfl
theorem dcount_n : (Tryd.f16.name == "runtime.NumGoroutine") = false := by kernel_rfl
theorem dcount_b : Tryd.f16.body.isNone = false := by kernel_rfl
theorem dcount_hO : OracleOk E dcount_O := orac_ok (.cons pwhole_ok .nil) .nil .nil .nil
theorem dcount_ok_of (h : ∀ (x0 : List UInt8) (x1 : Int), pokW x0 x1 = true → dcount_t (Gr E Tryd.f16 [⟨.int, pwholeV x0 x1⟩, ⟨.api_Errno, pwholeE x0 x1⟩]) x0 x1 = some [⟨.int, pwholeV x0 x1⟩, ⟨.api_Errno, pwholeE x0 x1⟩]) : FnOk E dcount_id dcount_W := fn22_ok dcount_hO mix dcount_f dcount_n dcount_b (fun x0 x1 hk => (dcount_e _ x0 x1).trans (h x0 x1 hk))
theorem dcount_ok : FnOk E dcount_id dcount_W := dcount_ok_of fun s most hk => by
  obtain ⟨⟨hs, h0⟩, h1⟩ := pokW_iff.1 hk
  simp only [dcount_t, hk, dF (show ¬ most < 0 by omega), cond_true, cond_false]
theorem pdgt_d {c : UInt8} (h : isD c = true) : pdgt c = ((c.toNat - 48 : Nat) : Int) ∧ c.toNat - 48 ≤ 9 := by
  have := isD_iff.1 h
  unfold pdgt
  omega
theorem pdgt_bad (c : UInt8) : (bif decide (pdgt c < 0) then true else decide (9 < pdgt c)) = !(isD c) := by
  rw [← bad1_eq]
  have e1 : decide (pdgt c < 0) = decide ((c.toNat : Int) < 48) := decide_eq_decide.2 (by unfold pdgt; omega)
  have e2 : decide (9 < pdgt c) = decide (57 < (c.toNat : Int)) := decide_eq_decide.2 (by unfold pdgt; omega)
  rw [e1, e2]
theorem pwh_no (most : Int) : ∀ (s : List UInt8) (n : Int) (over : Bool), s.all isD = false → pwh most s n over = (0, 3)
  | [], _, _, h => by cases h
  | c :: t, n, over, h => by
    unfold pwh
    rw [pdgt_bad]
    cases hc : isD c with
    | false => rfl
    | true =>
      rw [List.all_cons, hc, Bool.true_and] at h
      simp only [Bool.not_true, cond_false]
      cases povr most (pdgt c) n over with
      | true => exact pwh_no most t _ _ h
      | false => exact pwh_no most t _ _ h
theorem pwh_over (most : Int) : ∀ (s : List UInt8) (n : Int), s.all isD = true → pwh most s n true = (0, 9)
  | [], _, _ => rfl
  | c :: t, n, h => by
    rw [List.all_cons, Bool.and_eq_true] at h
    unfold pwh
    rw [pdgt_bad, h.1]
    exact pwh_over most t n h.2
theorem pwh_eq (most : Int) (h0 : 0 ≤ most) : ∀ (s : List UInt8) (n : Nat), s.all isD = true → (n : Int) ≤ most → pwh most s n false = overP most (valN s n)
  | [], n, _, hn => by rw [valN, overP_ge (by omega)]; rfl
  | c :: t, n, h, hn => by
    rw [List.all_cons, Bool.and_eq_true] at h
    obtain ⟨e, hd⟩ := pdgt_d h.1
    unfold pwh valN
    rw [pdgt_bad, h.1]
    simp only [Bool.not_true, cond_false]
    rw [e]
    generalize hq : c.toNat - 48 = d at hd ⊢
    by_cases hm : ((n * 10 + d : Nat) : Int) ≤ most
    · have ho : povr most (d : Int) n false = false := by
        unfold povr
        rw [cond_false, Int.tdiv_eq_ediv_of_nonneg (by omega), dF (by omega), dF (by omega)]
        rfl
      rw [ho, Bool.not_false, cond_true, show (n : Int) * 10 + (d : Int) = ((n * 10 + d : Nat) : Int) by omega]
      exact pwh_eq most h0 t _ h.2 hm
    · have ho : povr most (d : Int) n false = true := by
        unfold povr
        rw [cond_false]
        by_cases hmd : most < (d : Int)
        · rw [dT hmd]; cases decide ((most - (d : Int)).tdiv 10 < (n : Int)) <;> rfl
        · rw [Int.tdiv_eq_ediv_of_nonneg (by omega), dT (by omega)]; rfl
      rw [ho, Bool.not_true, cond_false, pwh_over most t _ h.2]
      have := valN_ge t (n * 10 + d)
      rw [overP_lt (by omega)]
theorem pbadW_eq (s : List UInt8) : pbadW s = lead0 s := by
  unfold pbadW
  match s with
  | [] => rfl
  | [c] => rfl
  | c :: d :: t =>
    have e1 : (c :: d :: t == ([] : List UInt8)) = false := rfl
    rw [e1, cond_false, dT (show (1 : Int) < ((c :: d :: t).length : Int) by simp only [List.length_cons]; omega), cond_true]
    exact c48 c
theorem count_eq (s : List UInt8) {most : Int} (h0 : 0 ≤ most) : pwholeP s most = cntP s most := by
  unfold pwholeP cntP wholeB
  rw [pbadW_eq]
  cases lead0 s with
  | true => rfl
  | false =>
    simp only [cond_false, Bool.not_false, Bool.true_and]
    cases hd : s.all isD with
    | false => rw [pwh_no most s _ _ hd]; rfl
    | true => rw [show (0 : Int) = ((0 : Nat) : Int) from rfl, pwh_eq most h0 s 0 hd (by omega)]; rfl
theorem countV_eq (s : List UInt8) {most : Int} (h0 : 0 ≤ most) : pwholeV s most = cntV s most := congrArg Prod.fst (count_eq s h0)
theorem countE_eq (s : List UInt8) {most : Int} (h0 : 0 ≤ most) : pwholeE s most = cntE s most := congrArg Prod.snd (count_eq s h0)
end Go.Proofs.YtinangndhcbjbaaDoor.Rf
