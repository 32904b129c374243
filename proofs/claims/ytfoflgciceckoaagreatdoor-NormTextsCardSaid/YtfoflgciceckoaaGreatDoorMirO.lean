/- The Mirror, part O: code (branches, blocks, loops) and whole functions. -/
import Derived.Test.YtfoflgciceckoaaGreatDoorMirN
namespace Go.Proofs.YtfoflgciceckoaaGreatDoor.Mir
open Go Go.RowKit

section
variable {P : Program} {E : Env P}

/-! ### Rows laid open: from now on they are plain slices -/
def frz1 (objs : List (Nat × AObj E)) : AV E → AV E
  | .row t n id => match look objs id with
    | some (.row t' l) => .grow t' l id
    | _ => .row t n id
  | v => v
def frzV (objs : List (Nat × AObj E)) : AV E → AV E
  | .agg cs => .agg (cs.map (frz1 objs))
  | .tup cs => .tup (cs.map (frz1 objs))
  | v => frz1 objs v
def frzO (objs : List (Nat × AObj E)) : AObj E → AObj E
  | .row _ _ => .tail true
  | .box cs => .box (cs.map (frz1 objs))
  | o => o
def frzT (objs : List (Nat × AObj E)) : List (Nat × AV E) → List (Nat × AV E)
  | [] => []
  | (t, v) :: r => (t, frzV objs v) :: frzT objs r
def frzOs (objs : List (Nat × AObj E)) : List (Nat × AObj E) → List (Nat × AObj E)
  | [] => []
  | (i, o) :: r => (i, frzO objs o) :: frzOs objs r
def freezeS (S : ASt E) : ASt E := ⟨S.n, frzT S.objs S.tmps, frzOs S.objs S.objs, S.next⟩

/-- What is told of a code beside its text: the slots that each loop's head keeps; the regions ahead of which rows are laid open; the slots, or cells of boxes, where a nil stands ahead of a loop for a row yet to grow (true), or for a slice. -/
structure Hint (E : Env P) where
  live : List (Nat × List Nat) := []
  frz : List Nat := []
  nils : List (Nat × List (Nat × Option Nat × Bool × E.Ty)) := []
  /-- ahead of a region: slots whose whole number is one of 0, .., n - 1, case by case -/
  split : List (Nat × List (Nat × Nat)) := []
  /-- ahead of a region: slots whose box is laid open (from now on it is only read) -/
  opn : List (Nat × List Nat) := []

/-! ### Boxes laid open: from now on their cells are only read -/
def opn1 (id : Nat) (ds : List (DVal E.Den)) : AV E → AV E
  | .ptr id' off => match Nat.beq id' id with
    | true => .pelt (ds.drop off)
    | false => .ptr id' off
  | v => v
def opnV (id : Nat) (ds : List (DVal E.Den)) : AV E → AV E
  | .agg cs => .agg (cs.map (opn1 id ds))
  | .tup cs => .tup (cs.map (opn1 id ds))
  | v => opn1 id ds v
def opnO (id : Nat) (ds : List (DVal E.Den)) (i : Nat) : AObj E → AObj E
  | .box cs => match Nat.beq i id with
    | true => .dead
    | false => .box (cs.map (opn1 id ds))
  | o => o
def opnT (id : Nat) (ds : List (DVal E.Den)) : List (Nat × AV E) → List (Nat × AV E)
  | [] => []
  | (t, v) :: r => (t, opnV id ds v) :: opnT id ds r
def opnOs (id : Nat) (ds : List (DVal E.Den)) : List (Nat × AObj E) → List (Nat × AObj E)
  | [] => []
  | (i, o) :: r => (i, opnO id ds i o) :: opnOs id ds r
def open1 (t : Nat) (S : ASt E) : ASt E := match look S.tmps t with
  | some (.ptr id _) => match look S.objs id with
    | some (.box cs) => match toDs cs with
      | some ds => ⟨S.n, opnT id ds S.tmps, opnOs id ds S.objs, S.next⟩
      | none => S
    | _ => S
  | _ => S
def openS : List Nat → ASt E → ASt E
  | [], S => S
  | t :: r, S => openS r (open1 t S)

/-! ### A whole number, case by case -/
def splitN {R : Type} (k : ASt E → Option R) (S : ASt E) (t : Nat) (kd : IntKind) (i : Int) : Nat → Nat → Option R
  | 0, _ => none
  | m + 1, j => bif i == (j : Int) then k ⟨S.n, (t, .d (.int kd (j : Int))) :: S.tmps, S.objs, S.next⟩ else splitN k S t kd i m (j + 1)
def splitK {R : Type} : List (Nat × Nat) → ASt E → (ASt E → Option R) → Option R
  | [], S, k => k S
  | (t, n) :: r, S, k => match look S.tmps t with
    | some (.d (.int kd i)) => splitN (fun S' => splitK r S' k) S t kd i n 0
    | _ => none

def nilV (g : Bool) (t : E.Ty) (nid : Nat) : AV E := match g with
  | true => .grow t [] nid
  | false => .d (.slice t [])
def nilO (g : Bool) (S : ASt E) : List (Nat × AObj E) := match g with
  | true => (S.next, .tail true) :: S.objs
  | false => S.objs
def nil1 (s : Nat) (off : Option Nat) (g : Bool) (t : E.Ty) (S : ASt E) : ASt E := match look S.tmps s with
  | some v => match off with
    | none => bif isNil v then ⟨S.n, (s, nilV g t S.next) :: S.tmps, nilO g S, S.next + 1⟩ else S
    | some o => match v with
      | .ptr id _ => match look S.objs id with
        | some (.box cs) => match cs[o]? with
          | some u => bif isNil u then ⟨S.n, S.tmps, (id, .box (cs.set o (nilV g t S.next))) :: nilO g S, S.next + 1⟩ else S
          | none => S
        | _ => S
      | _ => S
  | none => S
def nilS : List (Nat × Option Nat × Bool × E.Ty) → ASt E → ASt E
  | [], S => S
  | (s, off, g, t) :: r, S => nilS r (nil1 s off g t S)

def memN : List Nat → Nat → Bool
  | [], _ => false
  | i :: r, j => Nat.beq i j || memN r j

/-! ### A loop's head: what is still wanted, in one form -/
def idxN : List Nat → Nat → Option Nat
  | [], _ => none
  | i :: r, j => if Nat.beq i j then some 0 else (match idxN r j with | some q => some (q + 1) | none => none)

def addN (l : List Nat) (i : Nat) : List Nat := match idxN l i with
  | some _ => l
  | none => l ++ [i]
def addAll (l : List Nat) : List Nat → List Nat
  | [] => l
  | i :: r => addAll (addN l i) r

def idsV : AV E → List Nat
  | .grow _ _ id => [id]
  | .ptr id _ => [id]
  | .row _ _ id => [id]
  | .elt id _ _ => [id]
  | _ => []
def idsVs : List (AV E) → List Nat
  | [] => []
  | v :: r => idsV v ++ idsVs r
def idsW : AV E → List Nat
  | .agg cs => idsVs cs
  | v => idsV v
def idsWs : List (Nat × AV E) → List Nat
  | [] => []
  | (_, v) :: r => idsW v ++ idsWs r
def idsO (objs : List (Nat × AObj E)) : List Nat → List Nat
  | [] => []
  | i :: r => (match look objs i with | some (.box cs) => idsVs cs | _ => []) ++ idsO objs r

def ren1 (ids : List Nat) : AV E → AV E
  | .grow t l id => match idxN ids id with
    | some j => .grow t l j
    | none => .d (.slice t l)
  | .ptr id off => match idxN ids id with
    | some j => .ptr j off
    | none => .any
  | .row t n id => match idxN ids id with
    | some j => .row t n j
    | none => .any
  | .elt id i off => match idxN ids id with
    | some j => .elt j i off
    | none => .any
  | .d c => .d c
  | .st t x => .st t x
  | .pelt cs => .pelt cs
  | _ => .any
def renV (ids : List Nat) : AV E → AV E
  | .agg cs => .agg (cs.map (ren1 ids))
  | v => ren1 ids v
def renO (ids : List Nat) : AObj E → AObj E
  | .box cs => .box (cs.map (ren1 ids))
  | o => o

/-- A slice whose tail is spent is a plain slice. -/
def plainV (objs : List (Nat × AObj E)) : AV E → AV E
  | .grow t l id => match look objs id with
    | some (.tail true) => .grow t l id
    | _ => .d (.slice t l)
  | v => v

def keepT (S : ASt E) : List Nat → List (Nat × AV E)
  | [] => []
  | t :: r => match look S.tmps t with | some x => (t, plainV S.objs x) :: keepT S r | none => keepT S r

def renT (ids : List Nat) : List (Nat × AV E) → List (Nat × AV E)
  | [] => []
  | (t, v) :: r => (t, renV ids v) :: renT ids r
def renOs (objs : List (Nat × AObj E)) (ids : List Nat) : List Nat → Nat → List (Nat × AObj E)
  | [], _ => []
  | i :: r, j => (j, match look objs i with | some o => renO ids o | none => .dead) :: renOs objs ids r (j + 1)

def headS (live : List Nat) (S : ASt E) : ASt E :=
  let kept := keepT S live
  let ids0 := addAll [] (idsWs kept)
  let ids := addAll ids0 (idsO S.objs ids0)
  ⟨S.n, renT ids kept, renOs S.objs ids ids 0, ids.length⟩

inductive AExit where
  | normal
  | exit (id : Nat)
  | ret
  | goto (l : Nat)

def AExit.toExit : AExit → Exit
  | .normal => .normal
  | .exit id => .exit id
  | .ret => .ret
  | .goto l => .goto l

/-- How many loops stand in a code; each is numbered in the order of the text. -/
def nloops : Code → Nat
  | .seq a b => nloops a + nloops b
  | .cond _ a b => nloops a + nloops b
  | .block _ b => nloops b
  | .loop b => nloops b + 1
  | _ => 0

def atN {α : Type} (l : List (Nat × List α)) (i : Nat) : List α := match look l i with
  | some x => x
  | none => []

/-- A state at the head of loop i. -/
def headAt (h : Hint E) (i : Nat) (S : ASt E) : ASt E := headS (atN h.live i) (nilS (atN h.nils i) S)

def evReg {R : Type} (O : Oracle E) (ops : Array Oper) (dr : Bool) (S : ASt E) (k : ASt E → Option R) : Option R := match dr with
  | true => evDraw O ops S.n S.tmps S.objs S.next ops.toList [] 0 k
  | false => evSeq O ops S.n S.tmps ops.toList [] S.objs S.next k

def seqK {R : Type} (f : ASt E → Option R) (k : AExit → ASt E → Option R) (e : AExit) (S : ASt E) : Option R := match e with
  | .normal => f S
  | .exit id => k (.exit id) S
  | .ret => k .ret S
  | .goto l => k (.goto l) S
def blockK {R : Type} (id : Nat) (k : AExit → ASt E → Option R) (e : AExit) (S : ASt E) : Option R := match e with
  | .normal => k .normal S
  | .exit i => (match Nat.beq i id with | true => k .normal S | false => k (.exit i) S)
  | .ret => k .ret S
  | .goto l => k (.goto l) S
/-- Does a scope with labels stand in a code? -/
def hasScope : Code → Bool
  | .seq a b => hasScope a || hasScope b
  | .cond _ a b => hasScope a || hasScope b
  | .block _ b => hasScope b
  | .loop b => hasScope b
  | .scope _ => true
  | _ => false
/-- In a scope: a jump leads to its label, whose head has number 100 + l. -/
def scopeK {R : Type} (h : Hint E) (G : Nat → ASt E → Option R) (c : Code) (k : AExit → ASt E → Option R) (e : AExit) (S : ASt E) : Option R := match e with
  | .normal => k .normal S
  | .exit id => k (.exit id) S
  | .ret => k .ret S
  | .goto l => (match findLabel c l with | some _ => G (100 + l) (headAt h (100 + l) S) | none => none)

/-- From the start of a code to its end, or to the head of a loop: there G has the word. -/
def evCode {R : Type} (O : Oracle E) (h : Hint E) (G : Nat → ASt E → Option R) : Nat → Code → ASt E → (AExit → ASt E → Option R) → Option R
  | _, .skip, S, k => k .normal S
  | _, .region id ops dr, S, k => splitK (atN h.split id) (openS (atN h.opn id) (match memN h.frz id with | true => freezeS S | false => S)) fun S' => evReg O ops dr S' (k .normal)
  | i, .seq x y, S, k => (match hasScope x && hasScope y with
    | true => none
    | false => evCode O h G i x S (seqK (fun S' => evCode O h G (i + nloops x) y S' k) k))
  | i, .cond c x y, S, k => (match hasScope x || hasScope y with
    | true => none
    | false => match getA S.tmps [] c with
      | .d (.bool b) => bif b then evCode O h G i x S k else evCode O h G (i + nloops x) y S k
      | _ => none)
  | i, .scope c, S, k => (match hasScope c, nloops c with
    | false, 0 => evCode O h G i c S (scopeK h G c k)
    | _, _ => none)
  | _, .label _, S, k => k .normal S
  | _, .goto l, S, k => k (.goto l) S
  | i, .block id body, S, k => evCode O h G i body S (blockK id k)
  | i, .loop _, S, _ => G i (headAt h i S)
  | _, .exit id, S, k => k (.exit id) S
  | _, .ret, S, k => k .ret S
  | _, _, _, _ => none

/-- Loop j of a code: its number, its body, and what comes behind it. -/
def ctxK {R : Type} (O : Oracle E) (h : Hint E) (G : Nat → ASt E → Option R) : Nat → Code → Nat → (AExit → ASt E → Option R) → Option (Nat × Code × (AExit → ASt E → Option R))
  | i, .loop b, 0, k => some (i, b, k)
  | i, .loop b, j + 1, k => ctxK O h G (i + 1) b j (seqK (fun S => G i (headAt h i S)) k)
  | i, .seq x y, j, k => match Nat.blt j (nloops x) with
    | true => ctxK O h G i x j (seqK (fun S' => evCode O h G (i + nloops x) y S' k) k)
    | false => ctxK O h G (i + nloops x) y (j - nloops x) k
  | i, .cond _ x y, j, k => match Nat.blt j (nloops x) with
    | true => ctxK O h G i x j k
    | false => ctxK O h G (i + nloops x) y (j - nloops x) k
  | i, .block id b, j, k => ctxK O h G i b j (blockK id k)
  | _, _, _, _ => none

/-- The scope of a code, and what comes behind it. -/
def ctxS {R : Type} (O : Oracle E) (h : Hint E) (G : Nat → ASt E → Option R) : Nat → Code → (AExit → ASt E → Option R) → Option (Code × (AExit → ASt E → Option R))
  | _, .scope c, k => some (c, k)
  | i, .seq x y, k => (match hasScope x, hasScope y with
    | true, false => ctxS O h G i x (seqK (fun S' => evCode O h G (i + nloops x) y S' k) k)
    | false, true => ctxS O h G (i + nloops x) y k
    | _, _ => none)
  | i, .block id b, k => ctxS O h G i b (blockK id k)
  | _, _, _ => none
/-- From label l to the end, or to the next head. -/
def segS {R : Type} (O : Oracle E) (h : Hint E) (G : Nat → ASt E → Option R) (c : Code) (l : Nat) (S : ASt E) (k : AExit → ASt E → Option R) : Option R := match ctxS O h G 0 c k with
  | some (sc, k') => (match findLabel sc l with
    | some rest => (match hasScope rest, nloops rest with
      | false, 0 => evCode O h G 0 rest S (scopeK h G sc k')
      | _, _ => none)
    | none => none)
  | none => none
/-- One round of loop j, and on to the end or to the next head. -/
def segC {R : Type} (O : Oracle E) (h : Hint E) (G : Nat → ASt E → Option R) (c : Code) (j : Nat) (S : ASt E) (k : AExit → ASt E → Option R) : Option R := match Nat.ble 100 j with
  | true => (match Nat.ble (nloops c) 100 with
    | true => segS O h G c (j - 100) S k
    | false => none)
  | false => (match hasScope c with
    | true => none
    | false => (match ctxK O h G 0 c j k with
      | some (i, b, k) => evCode O h G (i + 1) b S (seqK (fun S => G i (headAt h i S)) k)
      | none => none))
end

section
variable {P : Program} {E : Env P} {w : World} {ro : Nat → Nat → Prop} {ι : Nat → Option Gh} {S : ASt E} {a : Act} {w0 : Start} {ro0 : Nat → Nat → Prop}

/-! A nil is a row without cells -/
theorem isNil_eq {v : AV E} (h : isNil v = true) : v = .d (.raw (.slice none 0 0)) := by
  unfold isNil at h
  split at h
  · rfl
  · cases h

def nilGh (E : Env P) (t : E.Ty) : Gh := ⟨.slice none 0 0, 0, E.tid t, E.size t, none⟩

theorem nilO_sound (g : Bool) (t : E.Ty) (hg : Gam E w0 ro0 S a w ι ro) : ∃ ι', (∀ id gh, ι id = some gh → ι' id = some gh) ∧ Gam E w0 ro0 ⟨S.n, S.tmps, nilO g S, S.next + 1⟩ a w ι' ro ∧ Rep E w ro ι' (.slice none 0 0) (nilV g t S.next) := by
  cases g with
  | false =>
    exact ⟨ι, fun _ _ h => h, ⟨hg.base, hg.size, hg.tmps, hg.objs, hg.inj, fun id h => hg.fresh id (by have h : S.next + 1 ≤ id := h; omega), fun id o h => by have := hg.ids id o h; show id < S.next + 1; omega⟩, .d _ _ (.nil t none 0)⟩
  | true =>
    have hfresh := hg.fresh S.next (Nat.le_refl _)
    have hext := setGh_ext ι S.next (nilGh E t) hfresh
    have hnew : setGh ι S.next (nilGh E t) S.next = some (nilGh E t) := if_pos rfl
    have hold : ∀ id, id ≠ S.next → setGh ι S.next (nilGh E t) id = ι id := fun id h => if_neg h
    refine ⟨setGh ι S.next (nilGh E t), hext, ⟨⟨hg.base.below, hg.base.rolt, hg.base.ronew, fun id gh k h1 h2 => ?_, hg.base.defers, fun q hq => ⟨(hg.base.keep q hq).1, fun id gh h => hext id gh ((hg.base.keep q hq).2 id gh h)⟩⟩, hg.size, fun t' x hl => ?_, fun id o hl => ?_, ?_, fun id h => ?_, fun id o hl => ?_⟩, ?_⟩
    · by_cases e : id = S.next
      · subst e; rw [hnew] at h1; cases h1; cases h2
      · rw [hold id e] at h1; exact hg.base.ilt id gh k h1 h2
    · obtain ⟨v, hv, hs⟩ := hg.tmps t' x hl
      exact ⟨v, hv, hs.mono (fun _ _ h => h) (fun _ _ _ => rfl) hext⟩
    · simp only [nilO, look] at hl
      split at hl
      · rename_i hb
        have := Nat.eq_of_beq_eq_true hb
        subst this
        cases hl
        intro _
        exact ⟨nilGh E t, [], hnew, .inl ⟨World.ownsRow_nil w 0 _ _, rfl⟩, fun g hg => by cases hg⟩
      · rename_i hb
        have hne : id ≠ S.next := fun e => by subst e; simp at hb
        have h := hg.objs id o hl
        cases o with
        | dead => trivial
        | box cs =>
          obtain ⟨gh, g, vs, ty, h1, h2, hb, h3, h4, h5, h6⟩ := h
          exact ⟨gh, g, vs, ty, hext _ _ h1, h2, hb, h3, h4, fun j v c hv hc => ⟨(h5 j v c hv hc).1, (h5 j v c hv hc).2.mono (fun _ _ h => h) (fun _ _ _ => rfl) hext⟩, h6⟩
        | tail l =>
          intro hl
          obtain ⟨gh, xs, h1, h2⟩ := h hl
          exact ⟨gh, xs, hext _ _ h1, h2⟩
        | row t l =>
          obtain ⟨gh, xs, h1, h2⟩ := h
          exact ⟨gh, xs, hext _ _ h1, h2⟩
    · intro id id' o o' gh gh' k hl hl' l1 l2 i1 i2 b1 b2
      by_cases e : id = S.next
      · subst e; rw [hnew] at i1; cases i1; cases b1
      · by_cases e' : id' = S.next
        · subst e'; rw [hnew] at i2; cases i2; cases b2
        · rw [hold id e] at i1
          rw [hold id' e'] at i2
          simp only [nilO, look] at hl hl'
          rw [if_neg (fun hb => e (Nat.eq_of_beq_eq_true hb).symm)] at hl
          rw [if_neg (fun hb => e' (Nat.eq_of_beq_eq_true hb).symm)] at hl'
          exact hg.inj id id' o o' gh gh' k hl hl' l1 l2 i1 i2 b1 b2
    · have h : S.next + 1 ≤ id := h
      rw [hold id (by omega)]
      exact hg.fresh id (by omega)
    · simp only [nilO, look] at hl
      show id < S.next + 1
      split at hl
      · rename_i hb
        have := Nat.eq_of_beq_eq_true hb
        omega
      · have := hg.ids id o hl; omega
    · exact .grow (nilGh E t) t [] S.next hnew rfl rfl rfl (.nil t none 0)

theorem nilV_cond {g : Bool} {t : E.Ty} {i : Nat} : isCond (nilV (E := E) g t i) = false := by cases g <;> rfl

theorem nil1_sound (s : Nat) (off : Option Nat) (g : Bool) (t : E.Ty) (hnc : NoCond S.tmps) (hg : Gam E w0 ro0 S a w ι ro) : ∃ ι', NoCond (nil1 s off g t S).tmps ∧ Gam E w0 ro0 (nil1 s off g t S) a w ι' ro ∧ (nil1 s off g t S).n = S.n := by
  have same : ∃ ι', NoCond S.tmps ∧ Gam E w0 ro0 S a w ι' ro ∧ S.n = S.n := ⟨ι, hnc, hg, rfl⟩
  unfold nil1
  split
  · rename_i v hv
    split
    · cases hn : isNil v with
      | false => exact same
      | true =>
        simp only [cond_true]
        obtain rfl := isNil_eq hn
        obtain ⟨ι', hext, hg', hr⟩ := nilO_sound g t hg
        obtain ⟨u, hu, hs⟩ := hg.tmps s _ hv
        have hu' : u = .slice none 0 0 := Rep.raw_inv hs
        subst hu'
        refine ⟨ι', fun p hp => ?_, ⟨hg'.base, hg'.size, fun t' x hl => ?_, hg'.objs, hg'.inj, hg'.fresh, hg'.ids⟩, trivial⟩
        · cases hp with
          | head => exact nilV_cond
          | tail _ hp => exact hnc p hp
        · simp only [look] at hl
          split at hl
          · rename_i hb
            have := Nat.eq_of_beq_eq_true hb
            subst this
            cases hl
            refine ⟨_, hu, ?_⟩
            have hc := nilV_cond (E := E) (g := g) (t := t) (i := S.next)
            generalize nilV g t S.next = y at hr hc
            cases y <;> first | exact hr | cases hc
          · exact hg'.tmps t' x hl
    · rename_i o
      split
      · rename_i id off'
        split
        · rename_i cs hob
          split
          · rename_i u hu
            cases hn : isNil u with
            | false => exact same
            | true =>
              simp only [cond_true]
              obtain rfl := isNil_eq hn
              obtain ⟨ι', hext, hg', hr⟩ := nilO_sound g t hg
              have hlt := hg.ids id _ hob
              have hob' : look (nilO g S) id = some (.box cs) := by
                cases g with
                | false => exact hob
                | true => simp only [nilO, look]; rw [if_neg (fun hb => by have := Nat.eq_of_beq_eq_true hb; omega)]; exact hob
              refine ⟨ι', hnc, ⟨hg'.base, hg'.size, hg'.tmps, fun id' o' hl => ?_, ?_, hg'.fresh, fun id' o' hl => ?_⟩, trivial⟩
              · simp only [look] at hl
                split at hl
                · rename_i hb
                  have := Nat.eq_of_beq_eq_true hb
                  subst this
                  cases hl
                  obtain ⟨gh, g', vs, ty, h1, h2, hb, h3, h4, h5, h6⟩ := hg'.objs id _ hob'
                  refine ⟨gh, g', vs, ty, h1, h2, hb, h3, by simp [h4], fun j v c hv hc => ?_, h6⟩
                  have hjl : j < cs.length := by have := (List.getElem?_eq_some_iff.1 hc).1; simpa using this
                  have hcj := List.getElem?_eq_getElem hjl
                  have h5j := h5 j v _ hv hcj
                  refine ⟨h5j.1, ?_⟩
                  by_cases hjo : j = o
                  · subst hjo
                    rw [List.getElem?_set_self hjl] at hc
                    cases hc
                    have h5u := (h5 j v _ hv hu).2
                    have : v = .slice none 0 0 := Rep.raw_inv h5u
                    subst this
                    exact hr
                  · rw [List.getElem?_set_ne (fun e => hjo e.symm)] at hc
                    exact (h5 j v c hv hc).2
                · exact hg'.objs id' o' hl
              · intro i1 i2 o1 o2 gh gh' k hl hl' l1 l2 e1 e2 b1 b2
                have lift : ∀ i ob, look ((id, AObj.box (cs.set o (nilV g t S.next))) :: nilO g S) i = some ob → ob.live = true → ∃ ob', look (nilO g S) i = some ob' ∧ ob'.live = true := by
                  intro i ob h hl
                  simp only [look] at h
                  split at h
                  · rename_i hb
                    have := Nat.eq_of_beq_eq_true hb
                    subst this
                    exact ⟨_, hob', rfl⟩
                  · exact ⟨ob, h, hl⟩
                obtain ⟨q1, g1, g2⟩ := lift i1 o1 hl l1
                obtain ⟨q2, g3, g4⟩ := lift i2 o2 hl' l2
                exact hg'.inj i1 i2 q1 q2 gh gh' k g1 g3 g2 g4 e1 e2 b1 b2
              · simp only [look] at hl
                split at hl
                · rename_i hb
                  have := Nat.eq_of_beq_eq_true hb
                  subst this
                  show id < S.next + 1
                  omega
                · exact hg'.ids id' o' hl
          · exact same
        · exact same
      · exact same
  · exact same

theorem nilS_sound : ∀ (l : List (Nat × Option Nat × Bool × E.Ty)) (S : ASt E) (ι : Nat → Option Gh), NoCond S.tmps → Gam E w0 ro0 S a w ι ro → ∃ ι', NoCond (nilS l S).tmps ∧ Gam E w0 ro0 (nilS l S) a w ι' ro ∧ (nilS l S).n = S.n
  | [], S, ι, hnc, hg => ⟨ι, hnc, hg, rfl⟩
  | (s, off, g, t) :: r, S, ι, hnc, hg => by
    obtain ⟨ι1, h1, h2, h3⟩ := nil1_sound s off g t hnc hg
    obtain ⟨ι2, h4, h5, h6⟩ := nilS_sound r (nil1 s off g t S) ι1 h1 h2
    exact ⟨ι2, h4, h5, h6.trans h3⟩

theorem look_frzT {objs : List (Nat × AObj E)} : ∀ {l : List (Nat × AV E)} {t : Nat} {y : AV E}, look (frzT objs l) t = some y → ∃ x, look l t = some x ∧ y = frzV objs x
  | [], _, _, h => by cases h
  | (u, x) :: r, t, y, h => by
    simp only [frzT, look] at h ⊢
    split at h
    · rename_i hb; rw [if_pos hb]; cases h; exact ⟨x, rfl, rfl⟩
    · rename_i hb; rw [if_neg hb]; exact look_frzT h
theorem look_frzOs {objs : List (Nat × AObj E)} : ∀ {l : List (Nat × AObj E)} {t : Nat} {y : AObj E}, look (frzOs objs l) t = some y → ∃ x, look l t = some x ∧ y = frzO objs x
  | [], _, _, h => by cases h
  | (u, x) :: r, t, y, h => by
    simp only [frzOs, look] at h ⊢
    split at h
    · rename_i hb; rw [if_pos hb]; cases h; exact ⟨x, rfl, rfl⟩
    · rename_i hb; rw [if_neg hb]; exact look_frzOs h

theorem frz1_cond {objs : List (Nat × AObj E)} {x : AV E} : isCond (frz1 objs x) = isCond x := by
  cases x <;> try rfl
  rename_i t n id
  show isCond (match look objs id with | some (.row t' l) => .grow t' l id | _ => .row t n id) = false
  split <;> rfl

theorem frzV_cond {objs : List (Nat × AObj E)} {x : AV E} : isCond (frzV objs x) = isCond x := by
  have h := frz1_cond (objs := objs) (x := x)
  cases x <;> first | rfl | exact h

theorem noCond_frzT {objs : List (Nat × AObj E)} : ∀ {l : List (Nat × AV E)}, NoCond l → NoCond (frzT objs l)
  | [], _ => fun p h => by cases h
  | (t, x) :: r, hn => fun p h => by
    cases h with
    | head => exact frzV_cond.trans (hn (t, x) List.mem_cons_self)
    | tail _ h => exact noCond_frzT (fun p h => hn p (List.mem_cons_of_mem _ h)) p h

/-- The cells of all owned rows. -/
def frzRo (objs : List (Nat × AObj E)) (ι : Nat → Option Gh) (ro : Nat → Nat → Prop) : Nat → Nat → Prop := fun k o =>
  ro k o ∨ ∃ id t l gh, look objs id = some (.row t l) ∧ ι id = some gh ∧ gh.blk = some k ∧ o < gh.n * gh.sz

/-- ROWS MAY BE LAID OPEN. -/
theorem freezeS_sound (hnc : NoCond S.tmps) (hg : Gam E w0 ro0 S a w ι ro) : NoCond (freezeS S).tmps ∧ Gam E w0 ro0 (freezeS S) a w ι (frzRo S.objs ι ro) := by
  have hro : ∀ k o, ro k o → frzRo S.objs ι ro k o := fun _ _ h => .inl h
  have one : ∀ (v : Value) (x : AV E), Rep E w ro ι v x → Rep E w (frzRo S.objs ι ro) ι v (frz1 S.objs x) := by
    intro v x h
    have hm := h.mono (w' := w) hro (fun _ _ _ => rfl) (fun _ _ h => h)
    cases h with
    | row gh t id ad cap h1 h2 h3 h4 h5 =>
      show Rep E w _ ι gh.v (match look S.objs id with | some (.row t' l) => .grow t' l id | _ => .row t gh.n id)
      split
      · rename_i t' l hob
        obtain ⟨gh', xs, hi', hn, hge, hgs, hown, hrow, hnro⟩ := hg.objs id _ hob
        rw [h1] at hi'
        cases hi'
        refine .grow gh t' l id h1 hn hge hgs ?_
        have hown' := hown
        unfold OwnT at hown'
        rw [hn, hge, hgs] at hown'
        refine slice_of_rowD hown' (fun g o hb ho => .inr ⟨id, t', l, gh, hob, h1, hb, by rw [hn, hgs]; exact ho⟩) (hrow.mono hro (fun _ _ _ => rfl))
      · exact hm
    | _ => exact hm
  have many : ∀ (vs : Array Value) (cs : List (AV E)), (∀ (j : Nat) v c, vs[j]? = some v → cs[j]? = some c → Rep E w ro ι v c) → ∀ (j : Nat) v c, vs[j]? = some v → (cs.map (frz1 S.objs))[j]? = some c → Rep E w (frzRo S.objs ι ro) ι v c := by
    intro vs cs h j v c hv hc
    rw [List.getElem?_map] at hc
    cases hx : cs[j]? with
    | none => rw [hx] at hc; cases hc
    | some y => rw [hx] at hc; cases hc; exact one v y (h j v y hv hx)
  have all : ∀ (v : Value) (x : AV E), Rep E w ro ι v x → Rep E w (frzRo S.objs ι ro) ι v (frzV S.objs x) := by
    intro v x h
    have h1 := one v x h
    cases h with
    | agg vs cs hs hi => exact .agg vs _ (by simp [hs]) (many vs cs hi)
    | tup vs cs hs hi => exact .tup vs _ (by simp [hs]) (many vs cs hi)
    | _ => exact h1
  have blkne : ∀ id ob, look S.objs id = some ob → ob.live = true → ∀ gh k, ι id = some gh → gh.blk = some k → ∀ id' t l gh', look S.objs id' = some (.row t l) → ι id' = some gh' → gh'.blk = some k → id = id' :=
    fun id ob h1 h2 gh k h3 h4 id' t l gh' h5 h6 h7 => hg.inj id id' ob _ gh gh' k h1 h5 h2 rfl h3 h6 h4 h7
  refine ⟨noCond_frzT hnc, ⟨hg.base.below, fun k o h => ?_, fun k o h => ?_, hg.base.ilt, hg.base.defers, fun q hq => ⟨fun k o h => ⟨.inl ((hg.base.keep q hq).1 k o h).1, ((hg.base.keep q hq).1 k o h).2⟩, (hg.base.keep q hq).2⟩⟩, hg.size, fun t y hl => ?_, fun id o hl => ?_, ?_, hg.fresh, fun id o hl => ?_⟩
  · rcases h with h | ⟨id, t, l, gh, _, hi, hb, _⟩
    · exact hg.base.rolt k o h
    · exact (hg.base.ilt id gh k hi hb).2
  · rcases h with h | ⟨id, t, l, gh, _, hi, hb, _⟩
    · exact hg.base.ronew k o h
    · exact .inr (hg.base.ilt id gh k hi hb).1
  · obtain ⟨x, hx, rfl⟩ := look_frzT hl
    obtain ⟨v, hv, hs⟩ := hg.tmps t x hx
    have hc : isCond x = false := hnc _ (look_mem _ _ _ hx)
    have hr : Rep E w ro ι v x := by cases x <;> first | exact hs | cases hc
    refine ⟨v, hv, ?_⟩
    have h2 := all v x hr
    have h3 : isCond (frzV S.objs x) = false := frzV_cond.trans hc
    generalize frzV S.objs x = y at h2 h3
    cases y <;> first | exact h2 | cases h3
  · obtain ⟨o', ho', rfl⟩ := look_frzOs hl
    have h := hg.objs id o' ho'
    cases o' with
    | dead => trivial
    | box cs =>
      obtain ⟨gh, g, vs, ty, h1, h2, hb, h3, h4, h5, h6⟩ := h
      refine ⟨gh, g, vs, ty, h1, h2, hb, h3, by simp [h4], fun j v c hv hc => ⟨?_, many vs cs (fun j v c hv hc => (h5 j v c hv hc).2) j v c hv hc⟩, fun o hr => ?_⟩
      · have hj : j < cs.length := by have := (List.getElem?_eq_some_iff.1 hc).1; simpa using this
        exact (h5 j v _ hv (List.getElem?_eq_getElem hj)).1
      · rcases hr with hr | ⟨id', t, l, gh', hob', hi', hb', _⟩
        · exact h6 o hr
        · have := blkne id _ ho' rfl gh g h1 hb id' t l gh' hob' hi' hb'
          subst this
          rw [ho'] at hob'; cases hob'
    | tail live =>
      intro hlive
      obtain ⟨gh, xs, h1, h2, h3⟩ := h hlive
      refine ⟨gh, xs, h1, h2, fun g hb o ho hr => ?_⟩
      rcases hr with hr | ⟨id', t, l, gh', hob', hi', hb', _⟩
      · exact h3 g hb o ho hr
      · have := blkne id _ ho' hlive gh g h1 hb id' t l gh' hob' hi' hb'
        subst this
        rw [ho'] at hob'; cases hob'
    | row t l =>
      intro _
      obtain ⟨gh, xs, h1, hn, hge, hgs, hown, hrow, hnro⟩ := h
      refine ⟨gh, xs, h1, hown, fun g hb o ho hr => ?_⟩
      rcases hr with hr | ⟨id', t', l', gh', hob', hi', hb', ho''⟩
      · exact hnro g hb o hr
      · have := blkne id _ ho' rfl gh g h1 hb id' t' l' gh' hob' hi' hb'
        subst this
        rw [h1] at hi'
        cases hi'
        omega
  · intro id id' o o' gh gh' k hl hl' l1 l2 i1 i2 b1 b2
    obtain ⟨q, hq, rfl⟩ := look_frzOs hl
    obtain ⟨q', hq', rfl⟩ := look_frzOs hl'
    have e1 : q.live = true := by cases q <;> first | exact l1 | rfl
    have e2 : q'.live = true := by cases q' <;> first | exact l2 | rfl
    exact hg.inj id id' q q' gh gh' k hq hq' e1 e2 i1 i2 b1 b2
  · obtain ⟨q, hq, rfl⟩ := look_frzOs hl
    exact hg.ids id q hq

/-! BOXES MAY BE LAID OPEN. -/
theorem opn1_cond {id : Nat} {ds : List (DVal E.Den)} {x : AV E} : isCond (opn1 id ds x) = isCond x := by
  cases x <;> try rfl
  rename_i id' off
  show isCond (match Nat.beq id' id with | true => .pelt (ds.drop off) | false => .ptr id' off) = false
  split <;> rfl
theorem opnV_cond {id : Nat} {ds : List (DVal E.Den)} {x : AV E} : isCond (opnV id ds x) = isCond x := by
  have h := opn1_cond (id := id) (ds := ds) (x := x)
  cases x <;> first | rfl | exact h
theorem noCond_opnT {id : Nat} {ds : List (DVal E.Den)} : ∀ {l : List (Nat × AV E)}, NoCond l → NoCond (opnT id ds l)
  | [], _ => fun p h => by cases h
  | (t, x) :: r, hn => fun p h => by
    cases h with
    | head => exact opnV_cond.trans (hn (t, x) List.mem_cons_self)
    | tail _ h => exact noCond_opnT (fun p h => hn p (List.mem_cons_of_mem _ h)) p h
theorem look_opnT {id : Nat} {ds : List (DVal E.Den)} : ∀ {l : List (Nat × AV E)} {t : Nat} {y : AV E}, look (opnT id ds l) t = some y → ∃ x, look l t = some x ∧ y = opnV id ds x
  | [], _, _, h => by cases h
  | (u, x) :: r, t, y, h => by
    simp only [opnT, look] at h ⊢
    split at h
    · rename_i hb; rw [if_pos hb]; cases h; exact ⟨x, rfl, rfl⟩
    · rename_i hb; rw [if_neg hb]; exact look_opnT h
theorem look_opnOs {id : Nat} {ds : List (DVal E.Den)} : ∀ {l : List (Nat × AObj E)} {t : Nat} {y : AObj E}, look (opnOs id ds l) t = some y → ∃ x, look l t = some x ∧ y = opnO id ds t x
  | [], _, _, h => by cases h
  | (u, x) :: r, t, y, h => by
    simp only [opnOs, look] at h ⊢
    split at h
    · rename_i hb
      rw [if_pos hb]
      cases h
      rw [Nat.eq_of_beq_eq_true hb]
      exact ⟨x, rfl, rfl⟩
    · rename_i hb; rw [if_neg hb]; exact look_opnOs h

theorem open1_sound (t : Nat) (hnc : NoCond S.tmps) (hg : Gam E w0 ro0 S a w ι ro) : ∃ ro', NoCond (open1 t S).tmps ∧ Gam E w0 ro0 (open1 t S) a w ι ro' ∧ (open1 t S).n = S.n := by
  have same : ∃ ro', NoCond S.tmps ∧ Gam E w0 ro0 S a w ι ro' ∧ S.n = S.n := ⟨ro, hnc, hg, rfl⟩
  unfold open1
  split
  · rename_i id off0 hv
    split
    · rename_i cs hob
      split
      · rename_i ds hds
        obtain ⟨gh, g, vs, ty, h1, h2, hb, h3, h4, h5, h6⟩ := hg.objs id _ hob
        have hlt := (hg.base.ilt id gh g h1 hb)
        have hdl := toDs_len hds
        let ro' : Nat → Nat → Prop := fun k o => ro k o ∨ (k = g ∧ o < cs.length)
        have hro : ∀ k o, ro k o → ro' k o := fun _ _ h => .inl h
        have one : ∀ (v : Value) (x : AV E), Rep E w ro ι v x → Rep E w ro' ι v (opn1 id ds x) := by
          intro v x h
          have hm := h.mono (w' := w) hro (fun _ _ _ => rfl) (fun _ _ h => h)
          cases h with
          | ptr gh' g' id' off i1 i2 =>
            show Rep E w ro' ι _ (match Nat.beq id' id with | true => .pelt (ds.drop off) | false => .ptr id' off)
            split
            · rename_i hbq
              have := Nat.eq_of_beq_eq_true hbq
              subst this
              rw [h1] at i1
              cases i1
              rw [h2] at i2
              cases i2
              refine .pelt g off (fun j => vs.getD (off + j) undef) (ds.drop off) (fun j c hc => ?_) (fun j c hc => ?_)
              · rw [List.getElem?_drop] at hc
                have hj : off + j < cs.length := by rw [← hdl]; exact (List.getElem?_eq_some_iff.1 hc).1
                have hjv : off + j < vs.size := by omega
                refine ⟨.inr ⟨rfl, hj⟩, ?_⟩
                simp [World.cell?, h3, hjv, Array.getD]
              · rw [List.getElem?_drop] at hc
                have hj : off + j < cs.length := by rw [← hdl]; exact (List.getElem?_eq_some_iff.1 hc).1
                have hjv : off + j < vs.size := by omega
                have hvj : vs[off + j]? = some vs[off + j] := Array.getElem?_eq_getElem hjv
                have hcj := List.getElem?_eq_getElem hj
                have hr := toD_rep (h5 _ _ _ hvj hcj).2 (toDs_at hds _ _ _ hcj hc)
                have e : vs.getD (off + j) undef = vs[off + j] := by simp [Array.getD, hjv]
                rw [e]
                exact hr.mono hro (fun _ _ _ => rfl)
            · exact hm
          | _ => exact hm
        have many : ∀ (vs : Array Value) (cs : List (AV E)), (∀ (j : Nat) v c, vs[j]? = some v → cs[j]? = some c → Rep E w ro ι v c) → ∀ (j : Nat) v c, vs[j]? = some v → (cs.map (opn1 id ds))[j]? = some c → Rep E w ro' ι v c := by
          intro vs cs h j v c hv hc
          rw [List.getElem?_map] at hc
          cases hx : cs[j]? with
          | none => rw [hx] at hc; cases hc
          | some y => rw [hx] at hc; cases hc; exact one v y (h j v y hv hx)
        have all : ∀ (v : Value) (x : AV E), Rep E w ro ι v x → Rep E w ro' ι v (opnV id ds x) := by
          intro v x h
          have h1 := one v x h
          cases h with
          | agg vs cs hs hi => exact .agg vs _ (by simp [hs]) (many vs cs hi)
          | tup vs cs hs hi => exact .tup vs _ (by simp [hs]) (many vs cs hi)
          | _ => exact h1
        have other : ∀ id' ob gh' g', look S.objs id' = some ob → ob.live = true → ι id' = some gh' → gh'.blk = some g' → id' ≠ id → g' ≠ g := by
          intro id' ob gh' g' q1 q2 q3 q4 hne e
          subst e
          exact hne (hg.inj id' id ob _ gh' gh g' q1 hob q2 rfl q3 h1 q4 hb)
        refine ⟨ro', noCond_opnT hnc, ⟨⟨hg.base.below, fun k o h => ?_, fun k o h => ?_, hg.base.ilt, hg.base.defers, fun q hq => ⟨fun k o h => ⟨.inl ((hg.base.keep q hq).1 k o h).1, ((hg.base.keep q hq).1 k o h).2⟩, (hg.base.keep q hq).2⟩⟩, hg.size, fun t y hl => ?_, fun id' o hl => ?_, ?_, hg.fresh, fun id' o hl => ?_⟩, rfl⟩
        · rcases h with h | ⟨rfl, _⟩
          · exact hg.base.rolt k o h
          · exact hlt.2
        · rcases h with h | ⟨rfl, _⟩
          · exact hg.base.ronew k o h
          · exact .inr hlt.1
        · obtain ⟨x, hx, rfl⟩ := look_opnT hl
          obtain ⟨v, hv, hs⟩ := hg.tmps t x hx
          have hc : isCond x = false := hnc _ (look_mem _ _ _ hx)
          have hr : Rep E w ro ι v x := by cases x <;> first | exact hs | cases hc
          refine ⟨v, hv, ?_⟩
          have h2 := all v x hr
          have h3 : isCond (opnV id ds x) = false := opnV_cond.trans hc
          generalize opnV id ds x = y at h2 h3
          cases y <;> first | exact h2 | cases h3
        · obtain ⟨o', ho', rfl⟩ := look_opnOs hl
          have h := hg.objs id' o' ho'
          cases o' with
          | dead => trivial
          | box cs' =>
            show ObjOk E w ro' ι id' (match Nat.beq id' id with | true => .dead | false => .box (cs'.map (opn1 id ds)))
            split
            · trivial
            · rename_i hbq
              have hne : id' ≠ id := fun e => by subst e; simp at hbq
              obtain ⟨gh', g', vs', ty', q1, q2, qb, q3, q4, q5, q6⟩ := h
              refine ⟨gh', g', vs', ty', q1, q2, qb, q3, by simp [q4], fun j v c hv hc => ⟨?_, many vs' cs' (fun j v c hv hc => (q5 j v c hv hc).2) j v c hv hc⟩, fun o hr => ?_⟩
              · have hj : j < cs'.length := by have := (List.getElem?_eq_some_iff.1 hc).1; simpa using this
                exact (q5 j v _ hv (List.getElem?_eq_getElem hj)).1
              · rcases hr with hr | ⟨hr, _⟩
                · exact q6 o hr
                · exact other id' _ gh' g' ho' rfl q1 qb hne hr
          | tail live =>
            intro hlive
            obtain ⟨gh', xs, q1, q2, q3⟩ := h hlive
            have hne : id' ≠ id := fun e => by subst e; rw [hob] at ho'; cases ho'
            refine ⟨gh', xs, q1, q2, fun g' hb' o ho hr => ?_⟩
            rcases hr with hr | ⟨hr, _⟩
            · exact q3 g' hb' o ho hr
            · exact other id' _ gh' g' ho' hlive q1 hb' hne hr
          | row t l =>
            obtain ⟨gh', xs, q1, hn, hge, hgs, hown, hrow, hnro⟩ := h
            have hne : id' ≠ id := fun e => by subst e; rw [hob] at ho'; cases ho'
            refine ⟨gh', xs, q1, hn, hge, hgs, hown, hrow.mono hro (fun _ _ _ => rfl), fun g' hb' o hr => ?_⟩
            rcases hr with hr | ⟨hr, _⟩
            · exact hnro g' hb' o hr
            · exact other id' _ gh' g' ho' rfl q1 hb' hne hr
        · intro i1 i2 o o' gh1 gh2 k hl hl' l1 l2 e1 e2 b1 b2
          obtain ⟨q, hq, rfl⟩ := look_opnOs hl
          obtain ⟨q', hq', rfl⟩ := look_opnOs hl'
          have lv : ∀ i (q : AObj E), (opnO id ds i q).live = true → q.live = true := by
            intro i q h
            cases q <;> first | exact h | rfl
          exact hg.inj i1 i2 q q' gh1 gh2 k hq hq' (lv _ _ l1) (lv _ _ l2) e1 e2 b1 b2
        · obtain ⟨q, hq, rfl⟩ := look_opnOs hl
          exact hg.ids id' q hq
      · exact same
    · exact same
  · exact same

theorem openS_sound : ∀ (l : List Nat) (S : ASt E) (ro : Nat → Nat → Prop), NoCond S.tmps → Gam E w0 ro0 S a w ι ro → ∃ ro', NoCond (openS l S).tmps ∧ Gam E w0 ro0 (openS l S) a w ι ro' ∧ (openS l S).n = S.n
  | [], S, ro, hnc, hg => ⟨ro, hnc, hg, rfl⟩
  | t :: r, S, ro, hnc, hg => by
    obtain ⟨ro1, h1, h2, h3⟩ := open1_sound t hnc hg
    obtain ⟨ro2, h4, h5, h6⟩ := openS_sound r (open1 t S) ro1 h1 h2
    exact ⟨ro2, h4, h5, h6.trans h3⟩

/-! A WHOLE NUMBER MAY BE TAKEN CASE BY CASE. -/
theorem splitN_sound {R : Type} {k : ASt E → Option R} {rr : R} {t : Nat} {kd : IntKind} {i : Int} (hnc : NoCond S.tmps) (hg : Gam E w0 ro0 S a w ι ro) (hl : look S.tmps t = some (.d (.int kd i))) :
    ∀ (m j : Nat), splitN k S t kd i m j = some rr → ∃ S', NoCond S'.tmps ∧ Gam E w0 ro0 S' a w ι ro ∧ S'.n = S.n ∧ k S' = some rr
  | 0, _, h => by cases h
  | m + 1, j, h => by
    unfold splitN at h
    cases hb : i == (j : Int) with
    | false => rw [hb] at h; exact splitN_sound hnc hg hl m (j + 1) h
    | true =>
      rw [hb] at h
      have e : i = (j : Int) := by simpa using hb
      subst e
      refine ⟨⟨S.n, (t, .d (.int kd (j : Int))) :: S.tmps, S.objs, S.next⟩, fun p hp => ?_, ⟨hg.base, hg.size, fun t' x hl' => ?_, hg.objs, hg.inj, hg.fresh, hg.ids⟩, rfl, h⟩
      · cases hp with
        | head => rfl
        | tail _ hp => exact hnc p hp
      · simp only [look] at hl'
        split at hl'
        · rename_i hb
          have := Nat.eq_of_beq_eq_true hb
          subst this
          cases hl'
          exact hg.tmps _ _ hl
        · exact hg.tmps t' x hl'
theorem splitK_sound {R : Type} {k : ASt E → Option R} {rr : R} : ∀ (l : List (Nat × Nat)) (S : ASt E), NoCond S.tmps → Gam E w0 ro0 S a w ι ro → splitK l S k = some rr → ∃ S', NoCond S'.tmps ∧ Gam E w0 ro0 S' a w ι ro ∧ S'.n = S.n ∧ k S' = some rr
  | [], S, hnc, hg, h => ⟨S, hnc, hg, rfl, h⟩
  | (t, n) :: r, S, hnc, hg, h => by
    unfold splitK at h
    split at h
    · rename_i kd i hl
      obtain ⟨S1, h1, h2, h3, h4⟩ := splitN_sound hnc hg hl n 0 h
      obtain ⟨S2, h5, h6, h7, h8⟩ := splitK_sound r S1 h1 h2 h4
      exact ⟨S2, h5, h6, h7.trans h3, h8⟩
    · cases h

theorem idxN_get : ∀ {l : List Nat} {i j : Nat}, idxN l i = some j → l[j]? = some i
  | [], _, _, h => by cases h
  | x :: r, i, j, h => by
    unfold idxN at h
    split at h
    · rename_i hb
      cases h
      simp [Nat.eq_of_beq_eq_true hb]
    · split at h
      · rename_i q hq
        cases h
        simpa using idxN_get hq
      · cases h

theorem idxN_none : ∀ {l : List Nat} {i : Nat}, idxN l i = none → i ∉ l
  | [], _, _ => by simp
  | x :: r, i, h => by
    unfold idxN at h
    split at h
    · cases h
    · rename_i hb
      split at h
      · cases h
      · rename_i hq
        have := idxN_none hq
        intro hm
        cases hm with
        | head => simp at hb
        | tail _ hm => exact this hm

theorem addN_nodup {l : List Nat} {i : Nat} (h : l.Nodup) : (addN l i).Nodup := by
  unfold addN
  split
  · exact h
  · rename_i hn
    rw [List.nodup_append]
    refine ⟨h, by simp, fun x hx y hy e => ?_⟩
    simp at hy
    subst hy; subst e
    exact idxN_none hn hx

theorem addAll_nodup : ∀ {m l : List Nat}, l.Nodup → (addAll l m).Nodup
  | [], _, h => h
  | _ :: r, _, h => addAll_nodup (m := r) (addN_nodup h)

theorem ren1_rep {ids : List Nat} {v : Value} {x : AV E} (h : Rep E w ro ι v x) : Rep E w ro (fun j => (ids[j]?).bind ι) v (ren1 ids x) := by
  cases h with
  | any v => exact .any _
  | d _ c h => exact .d _ c h
  | st vs t x ha h => exact .st vs t x ha h
  | agg => exact .any _
  | tup => exact .any _
  | pelt g off f cs h1 h2 => exact .pelt g off f cs h1 h2
  | grow gh t l id h1 h2 h3 h4 h5 =>
    show Rep E w ro _ gh.v (match idxN ids id with | some j => .grow t l j | none => .d (.slice t l))
    cases hj : idxN ids id with
    | some j => exact .grow gh t l j (show (ids[j]?).bind ι = some gh by rw [idxN_get hj]; exact h1) h2 h3 h4 h5
    | none => exact .d _ _ h5
  | ptr gh g id off h1 h2 =>
    show Rep E w ro _ _ (match idxN ids id with | some j => .ptr j off | none => .any)
    cases hj : idxN ids id with
    | some j => exact .ptr gh g j off (show (ids[j]?).bind ι = some gh by rw [idxN_get hj]; exact h1) h2
    | none => exact .any _
  | row gh t id ad cap h1 h2 h3 h4 h5 =>
    show Rep E w ro _ gh.v (match idxN ids id with | some j => .row t gh.n j | none => .any)
    cases hj : idxN ids id with
    | some j => exact .row gh t j ad cap (show (ids[j]?).bind ι = some gh by rw [idxN_get hj]; exact h1) h2 h3 h4 h5
    | none => exact .any _
  | elt gh g id i off cap h1 h2 h3 =>
    show Rep E w ro _ _ (match idxN ids id with | some j => .elt j i off | none => .any)
    cases hj : idxN ids id with
    | some j => exact .elt gh g j i off cap (show (ids[j]?).bind ι = some gh by rw [idxN_get hj]; exact h1) h2 h3
    | none => exact .any _

theorem map_rep {ids : List Nat} {vs : Array Value} {cs : List (AV E)} (h : ∀ (j : Nat) v c, vs[j]? = some v → cs[j]? = some c → Rep E w ro ι v c) : ∀ (j : Nat) v c, vs[j]? = some v → (cs.map (ren1 ids))[j]? = some c → Rep E w ro (fun j => (ids[j]?).bind ι) v c := by
  intro j v c hv hc
  rw [List.getElem?_map] at hc
  cases hx : cs[j]? with
  | none => rw [hx] at hc; cases hc
  | some y =>
    rw [hx] at hc
    cases hc
    exact ren1_rep (h j v y hv hx)

theorem renV_rep {ids : List Nat} {v : Value} {x : AV E} (h : Rep E w ro ι v x) : Rep E w ro (fun j => (ids[j]?).bind ι) v (renV ids x) := by
  have one := ren1_rep (ids := ids) h
  cases h with
  | agg vs cs h1 h2 => exact .agg vs _ (by simp [h1]) (map_rep h2)
  | _ => exact one

theorem plainV_rep {objs : List (Nat × AObj E)} {v : Value} {x : AV E} (h : Rep E w ro ι v x) : Rep E w ro ι v (plainV objs x) := by
  have h0 := h
  cases h with
  | grow gh t l id h1 h2 h3 h4 h5 =>
    show Rep E w ro ι gh.v (match look objs id with | some (.tail true) => .grow t l id | _ => .d (.slice t l))
    split
    · exact h0
    · exact .d _ _ h5
  | _ => exact h0

theorem look_keepT {live : List Nat} {t : Nat} {y : AV E} (h : look (keepT S live) t = some y) : ∃ x, look S.tmps t = some x ∧ y = plainV S.objs x := by
  induction live with
  | nil => cases h
  | cons u r ih =>
    unfold keepT at h
    cases hx : look S.tmps u with
    | some x =>
      rw [hx] at h
      simp only [look] at h
      split at h
      · rename_i hb
        have := Nat.eq_of_beq_eq_true hb
        subst this
        cases h
        exact ⟨x, hx, rfl⟩
      · exact ih h
    | none =>
      rw [hx] at h
      exact ih h

theorem look_renT {ids : List Nat} : ∀ {l : List (Nat × AV E)} {t : Nat} {y : AV E}, look (renT ids l) t = some y → ∃ x, look l t = some x ∧ y = renV ids x
  | [], _, _, h => by cases h
  | (u, x) :: r, t, y, h => by
    simp only [renT, look] at h ⊢
    split at h
    · rename_i hb; rw [if_pos hb]; cases h; exact ⟨x, rfl, rfl⟩
    · rename_i hb; rw [if_neg hb]; exact look_renT h

theorem look_renOs {objs : List (Nat × AObj E)} {ids : List Nat} : ∀ {l : List Nat} {j q : Nat} {o : AObj E}, look (renOs objs ids l j) q = some o → ∃ i, j ≤ q ∧ l[q - j]? = some i ∧ (o = .dead ∨ ∃ o', look objs i = some o' ∧ o = renO ids o')
  | [], _, _, _, h => by cases h
  | i :: r, j, q, o, h => by
    simp only [renOs, look] at h
    split at h
    · rename_i hb
      have := Nat.eq_of_beq_eq_true hb
      subst this
      refine ⟨i, Nat.le_refl _, by simp, ?_⟩
      cases ho : look objs i with
      | none => rw [ho] at h; cases h; exact .inl rfl
      | some o' => rw [ho] at h; cases h; exact .inr ⟨o', rfl, rfl⟩
    · obtain ⟨i', h1, h2, h3⟩ := look_renOs h
      exact ⟨i', by omega, by rw [show q - j = (q - (j + 1)) + 1 from by omega]; simpa using h2, h3⟩

theorem noCond_renT {ids : List Nat} : ∀ (l : List (Nat × AV E)), NoCond (renT ids l)
  | [] => fun p h => by cases h
  | (t, x) :: r => fun p h => by
    cases h with
    | tail _ h => exact noCond_renT r p h
    | head =>
      simp only
      cases x with
      | cond => rfl
      | agg => rfl
      | any => rfl
      | d => rfl
      | st => rfl
      | tup => rfl
      | pelt => rfl
      | grow t l id => simp only [renV, ren1]; split <;> rfl
      | ptr id off => simp only [renV, ren1]; split <;> rfl
      | row t n id => simp only [renV, ren1]; split <;> rfl
      | elt id i off => simp only [renV, ren1]; split <;> rfl

/-- At a loop's head less is known, and it is known in one form. -/
theorem headS_sound (live : List Nat) (hio : w0.k = none) (hnc : NoCond S.tmps) (hg : Gam E w0 ro0 S a w ι ro) : ∃ ι', NoCond (headS live S).tmps ∧ Gam E w0 ro0 (headS live S) a w ι' ro := by
  let kept := keepT S live
  let ids0 := addAll [] (idsWs kept)
  let ids := addAll ids0 (idsO S.objs ids0)
  have hnd : ids.Nodup := addAll_nodup (addAll_nodup List.nodup_nil)
  refine ⟨fun j => (ids[j]?).bind ι, noCond_renT _, ⟨hg.base.below, hg.base.rolt, hg.base.ronew, fun id gh k h1 h2 => ?_, hg.base.defers, fun q hq => by rw [hio] at hq; cases hq⟩, hg.size, fun t y hl => ?_, fun id o hl => ?_, ?_, fun id h => ?_, fun id o hl => ?_⟩
  · cases hj : ids[id]? with
    | none => simp only [hj] at h1; cases h1
    | some i => simp only [hj] at h1; exact hg.base.ilt i gh k h1 h2
  · obtain ⟨x, hx, rfl⟩ := look_renT hl
    obtain ⟨z, hz, rfl⟩ := look_keepT hx
    obtain ⟨v, hv, hs⟩ := hg.tmps t z hz
    have hc : isCond z = false := hnc _ (look_mem _ _ _ hz)
    have hr : Rep E w ro ι v z := by cases z <;> first | exact hs | cases hc
    refine ⟨v, hv, ?_⟩
    have h2 := renV_rep (ids := ids) (plainV_rep (objs := S.objs) hr)
    have h3 : isCond (renV ids (plainV S.objs z)) = false := by
      have := noCond_renT (ids := ids) [(0, plainV S.objs z)]
      exact this (0, renV ids (plainV S.objs z)) List.mem_cons_self
    show SRep E w ro _ a.tmps v (renV ids (plainV S.objs z))
    generalize renV ids (plainV S.objs z) = y at h2 h3
    cases y <;> first | exact h2 | cases h3
  · obtain ⟨i, _, hi, h⟩ := look_renOs hl
    simp only [Nat.sub_zero] at hi
    rcases h with rfl | ⟨o', ho', rfl⟩
    · trivial
    · have h := hg.objs i o' ho'
      have hi' : (fun j => (ids[j]?).bind ι) id = ι i := by
        show (ids[id]?).bind ι = ι i
        rw [hi]; rfl
      cases o' with
      | dead => trivial
      | tail l =>
        intro hl
        obtain ⟨gh, xs, h1, h2, h3⟩ := h hl
        exact ⟨gh, xs, hi'.trans h1, h2, h3⟩
      | row t l =>
        obtain ⟨gh, xs, h1, h2⟩ := h
        exact ⟨gh, xs, hi'.trans h1, h2⟩
      | box cs =>
        obtain ⟨gh, g, vs, ty, h1, h2, hb, h3, h4, h5, h6⟩ := h
        exact ⟨gh, g, vs, ty, hi'.trans h1, h2, hb, h3, by simp [h4], fun j v c hv hc => ⟨by
          have hj : j < cs.length := by have := (List.getElem?_eq_some_iff.1 hc).1; simpa using this
          exact (h5 j v _ hv (List.getElem?_eq_getElem hj)).1, map_rep (fun j v c hv hc => (h5 j v c hv hc).2) j v c hv hc⟩, h6⟩
  · intro id id' o o' gh gh' k hl hl' l1 l2 i1 i2 b1 b2
    obtain ⟨i, _, hi, h⟩ := look_renOs hl
    obtain ⟨i', _, hi', h'⟩ := look_renOs hl'
    simp only [Nat.sub_zero] at hi hi'
    rcases h with rfl | ⟨q, hq, rfl⟩
    · cases l1
    rcases h' with rfl | ⟨q', hq', rfl⟩
    · cases l2
    have e1 : q.live = true := by cases q <;> exact l1
    have e2 : q'.live = true := by cases q' <;> exact l2
    simp only at i1 i2
    have i1' : (ids[id]?).bind ι = some gh := i1
    have i2' : (ids[id']?).bind ι = some gh' := i2
    rw [show ids[id]? = some i from hi] at i1'
    rw [show ids[id']? = some i' from hi'] at i2'
    have := hg.inj i i' q q' gh gh' k hq hq' e1 e2 i1' i2' b1 b2
    subst this
    have hlt := (List.getElem?_eq_some_iff.1 hi).1
    have hlt' := (List.getElem?_eq_some_iff.1 hi').1
    exact (List.getElem?_inj hlt hnd).1 (hi.trans hi'.symm)
  · have h' : ids.length ≤ id := h
    show (ids[id]?).bind ι = none
    rw [List.getElem?_eq_none h']
    rfl
  · obtain ⟨i, _, hi, _⟩ := look_renOs hl
    simp only [Nat.sub_zero] at hi
    exact (List.getElem?_eq_some_iff.1 hi).1
end
end Go.Proofs.YtfoflgciceckoaaGreatDoor.Mir
