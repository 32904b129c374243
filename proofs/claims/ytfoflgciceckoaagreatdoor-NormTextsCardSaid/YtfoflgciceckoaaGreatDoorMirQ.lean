/- The Mirror, part Q: what an environment of types and a function's contract are made of. -/
import Derived.Test.YtfoflgciceckoaaGreatDoorMirP
namespace Go.Proofs.YtfoflgciceckoaaGreatDoor.Mir
open Go Go.RowKit

theorem info_of {P : Program} {T a b c : Nat} (h : (P.info? T).map (fun i => (i.size, i.bytes, i.zero.map fun z => z.cells.size)) = some (a, b, some c)) (hc : c = a) :
    ∃ i z, P.info? T = some i ∧ i.size = a ∧ i.bytes = b ∧ i.zero = some z ∧ z.cells.size = a := by
  subst hc
  cases hi : P.info? T with
  | none => rw [hi] at h; cases h
  | some i =>
    rw [hi] at h
    simp only [Option.map_some, Option.some.injEq, Prod.mk.injEq] at h
    obtain ⟨h1, h2, h3⟩ := h
    cases hz : i.zero with
    | none => rw [hz] at h3; cases h3
    | some z =>
      rw [hz] at h3
      exact ⟨i, z, rfl, h1, h2, hz, by simpa using h3⟩

section
variable {Ty : Type} {Den : Ty → Type}
def dInt (k : IntKind) : DVal Den → Option Int
  | .int k' n => if k = k' then some n else none
  | _ => none
def dBl : DVal Den → Option Bool
  | .bool b => some b
  | _ => none
def dStr : DVal Den → Option (List UInt8)
  | .str s => some s
  | _ => none
def dSl (dec : DecidableEq Ty) (t : Ty) : DVal Den → Option (List (Den t))
  | .slice t' l => match dec t' t with
    | .isTrue h => some (h ▸ l)
    | .isFalse _ => none
  | .raw (.slice none 0 0) => some []
  | _ => none

def dFlt : DVal Den → Option Int
  | .flt n => some n
  | _ => none
def dCpx : DVal Den → Option (Int × Int)
  | .cpx a b => some (a, b)
  | _ => none
theorem dFlt_le {c : DVal Den} {n : Int} (h : dFlt c = some n) : DLe c (.flt n) := by
  unfold dFlt at h
  split at h
  · cases h; exact .inl rfl
  · cases h
theorem dCpx_le {c : DVal Den} {n : Int × Int} (h : dCpx c = some n) : DLe c (.cpx n.1 n.2) := by
  unfold dCpx at h
  split at h
  · cases h; exact .inl rfl
  · cases h
def dFn : DVal Den → Option Nat
  | .raw (.func (.func f) ⟨[]⟩ ⟨[]⟩) => some f
  | _ => none
theorem dFn_le {c : DVal Den} {n : Nat} (h : dFn c = some n) : DLe c (.raw (.func (.func n) #[] #[])) := by
  unfold dFn at h
  split at h
  · cases h; exact .inl rfl
  · cases h
theorem dInt_le {k : IntKind} {c : DVal Den} {n : Int} (h : dInt k c = some n) : DLe c (.int k n) := by
  unfold dInt at h
  split at h
  · split at h
    · rename_i e; subst e; cases h; exact .inl rfl
    · cases h
  · cases h
theorem dBl_le {c : DVal Den} {n : Bool} (h : dBl c = some n) : DLe c (.bool n) := by
  unfold dBl at h
  split at h
  · cases h; exact .inl rfl
  · cases h
theorem dStr_le {c : DVal Den} {n : List UInt8} (h : dStr c = some n) : DLe c (.str n) := by
  unfold dStr at h
  split at h
  · cases h; exact .inl rfl
  · cases h
theorem dSl_le {dec : DecidableEq Ty} {t : Ty} {c : DVal Den} {l : List (Den t)} (h : dSl dec t c = some l) : DLe c (.slice t l) := by
  unfold dSl at h
  split at h
  · split at h
    · rename_i e _; subst e; cases h; exact .inl rfl
    · cases h
  · cases h; exact .inr ⟨rfl, t, rfl⟩
  · cases h
end

section
variable {P : Program} {E : Env P}
abbrev FnW (E : Env P) := List (TV E) → Option (Bool × List (TV E))
abbrev FnR (E : Env P) := List (TV E) → Option (Bool × ((t : E.Ty) × List (E.Den t)))

abbrev FnM (E : Env P) := (t : E.Ty) → List (E.Den t) → List (TV E) → Option (Bool × Bool × List (E.Den t))

def mut0 (a : E.Ty) (back : Bool) (ok : List (E.Den a) → Bool) (F : List (E.Den a) → List (E.Den a)) : FnM E := fun t l rest => match castL t a l, rest with
  | some x, [] => (match castL a t (F x) with
    | some y => some (ok x, back, y)
    | none => none)
  | _, _ => none

theorem mut0_inv {a : E.Ty} {F : List (E.Den a) → List (E.Den a)} {ok : List (E.Den a) → Bool} {bk back : Bool} {t : E.Ty} {l l' : List (E.Den t)} {rest : List (TV E)} (h : mut0 a bk ok F t l rest = some (true, back, l')) :
    ∃ x : List (E.Den a), (⟨t, l⟩ : (t : E.Ty) × List (E.Den t)) = ⟨a, x⟩ ∧ rest = [] ∧ bk = back ∧ ok x = true ∧ (⟨t, l'⟩ : (t : E.Ty) × List (E.Den t)) = ⟨a, F x⟩ := by
  unfold mut0 at h
  split at h
  · rename_i x hx
    unfold castL at hx
    split at hx
    · rename_i e _
      subst e
      cases hx
      split at h
      · rename_i y hy
        unfold castL at hy
        split at hy
        · cases hy
          simp only [Option.some.injEq, Prod.mk.injEq] at h
          obtain ⟨h1, h2, h3⟩ := h
          exact ⟨_, rfl, rfl, h2, h1, by rw [← h3]⟩
        · cases hy
      · cases h
    · cases hx
  · cases h

/-- An oracle made of a list of functions, and of a list of those that make a row for their caller. -/
def orac (l : List (FuncId × FnW E)) (m : List (FuncId × FnR E) := []) (u : List (FuncId × FnM E) := []) (gr : List (FuncId × E.Ty) := []) : Oracle E where
  call := fun f args => match look l f with
    | some F => F args
    | none => none
  isFresh := fun f => match look m f with
    | some _ => true
    | none => false
  fresh := fun f args => match look m f with
    | some F => F args
    | none => none
  isMut := fun f => match look u f with
    | some _ => true
    | none => false
  grow := fun f => look gr f
  rowf := fun f t l xs => match look u f with
    | some F => F t l xs
    | none => none
  inl := .nil

def FreshOk (E : Env P) (f : FuncId) (F : FnR E) : Prop :=
  (∃ fn, P.funcs[f]? = some fn ∧ (fn.name == "runtime.NumGoroutine") = false ∧ fn.body.isNone = false) ∧ ∀ args t l, F args = some (true, ⟨t, l⟩) → CallsFresh E f args t l

def MutOk (E : Env P) (f : FuncId) (F : FnM E) : Prop :=
  (∃ fn, P.funcs[f]? = some fn ∧ (fn.name == "runtime.NumGoroutine") = false ∧ fn.body.isNone = false) ∧ ∀ t l xs back l', F t l xs = some (true, back, l') → CallsMut E f t l xs back l'

def GrowOk (E : Env P) (f : FuncId) (t : E.Ty) : Prop :=
  (∃ fn, P.funcs[f]? = some fn ∧ (fn.name == "runtime.NumGoroutine") = false ∧ fn.body.isNone = false) ∧ CallsGrow E f t
def AllGrow (l : List (FuncId × E.Ty)) : Prop := ∀ p ∈ l, GrowOk E p.1 p.2
theorem AllGrow.nil : AllGrow (E := E) [] := fun p h => by cases h
theorem AllGrow.cons {f : FuncId} {t : E.Ty} {l : List (FuncId × E.Ty)} (h : GrowOk E f t) (hl : AllGrow l) : AllGrow ((f, t) :: l) := fun p hp => by
  cases hp with
  | head => exact h
  | tail _ hp => exact hl p hp
def AllMut (l : List (FuncId × FnM E)) : Prop := ∀ p ∈ l, MutOk E p.1 p.2
def AllOk (l : List (FuncId × FnW E)) : Prop := ∀ p ∈ l, FnOk E p.1 p.2
def AllFresh (l : List (FuncId × FnR E)) : Prop := ∀ p ∈ l, FreshOk E p.1 p.2

theorem orac_ok {l : List (FuncId × FnW E)} {m : List (FuncId × FnR E)} {u : List (FuncId × FnM E)} {gr : List (FuncId × E.Ty)} (h : AllOk l) (hm : AllFresh m) (hu : AllMut u) (hg : AllGrow gr) : OracleOk E (orac l m u gr) := by
  refine ⟨fun f args res hr => ?_, fun f args t x hr => ?_, fun f t x rest back x' hr => ?_, fun f t hr => hg _ (look_mem _ _ _ hr), fun f args objs next k rr h => by cases h⟩
  · simp only [orac] at hr
    split at hr
    · rename_i F hF
      have := h _ (look_mem _ _ _ hF)
      exact ⟨this.1, this.2 args res hr⟩
    · cases hr
  · simp only [orac] at hr
    split at hr
    · rename_i F hF
      have := hm _ (look_mem _ _ _ hF)
      exact ⟨this.1, this.2 args t x hr⟩
    · cases hr
  · simp only [orac] at hr
    split at hr
    · rename_i F hF
      have := hu _ (look_mem _ _ _ hF)
      exact ⟨this.1, this.2 t x rest back x' hr⟩
    · cases hr

theorem AllOk.nil : AllOk (E := E) [] := fun p h => by cases h
theorem AllFresh.nil : AllFresh (E := E) [] := fun p h => by cases h
theorem AllOk.cons {f : FuncId} {F : FnW E} {l : List (FuncId × FnW E)} (h : FnOk E f F) (hl : AllOk l) : AllOk ((f, F) :: l) := fun p hp => by
  cases hp with
  | head => exact h
  | tail _ hp => exact hl p hp
theorem AllMut.nil : AllMut (E := E) [] := fun p h => by cases h
theorem AllMut.cons {f : FuncId} {F : FnM E} {l : List (FuncId × FnM E)} (h : MutOk E f F) (hl : AllMut l) : AllMut ((f, F) :: l) := fun p hp => by
  cases hp with
  | head => exact h
  | tail _ hp => exact hl p hp
theorem AllFresh.cons {f : FuncId} {F : FnR E} {l : List (FuncId × FnR E)} (h : FreshOk E f F) (hl : AllFresh l) : AllFresh ((f, F) :: l) := fun p hp => by
  cases hp with
  | head => exact h
  | tail _ hp => exact hl p hp

def castV (t : E.Ty) (v : TV E) : Option (E.Den t) := castD v.1 t v.2

theorem castV_eq {t : E.Ty} {v : TV E} {x : E.Den t} (h : castV t v = some x) : v = ⟨t, x⟩ := by
  unfold castV castD at h
  cases hd : E.dec v.1 t with
  | isFalse hn => rw [hd] at h; cases h
  | isTrue he =>
    rw [hd] at h
    obtain ⟨t', y⟩ := v
    simp only at he
    subst he
    cases h
    rfl

/-- A function of typed arguments and results: ok tells where it is known to hold. -/
def fn0 (t : E.Ty) (ok : Bool) (F : E.Den t) : FnW E
  | [] => some (ok, [⟨t, F⟩])
  | _ => none
def fn1 (a t : E.Ty) (ok : E.Den a → Bool) (F : E.Den a → E.Den t) : FnW E
  | [x] => match castV a x with
    | some x => some (ok x, [⟨t, F x⟩])
    | none => none
  | _ => none
def fn2 (a b t : E.Ty) (ok : E.Den a → E.Den b → Bool) (F : E.Den a → E.Den b → E.Den t) : FnW E
  | [x, y] => match castV a x with
    | some x => match castV b y with
      | some y => some (ok x y, [⟨t, F x y⟩])
      | none => none
    | none => none
  | _ => none
def fn22 (a b t u : E.Ty) (ok : E.Den a → E.Den b → Bool) (F : E.Den a → E.Den b → E.Den t) (G : E.Den a → E.Den b → E.Den u) : FnW E
  | [x, y] => match castV a x with
    | some x => match castV b y with
      | some y => some (ok x y, [⟨t, F x y⟩, ⟨u, G x y⟩])
      | none => none
    | none => none
  | _ => none
def fn3 (a b c t : E.Ty) (ok : E.Den a → E.Den b → E.Den c → Bool) (F : E.Den a → E.Den b → E.Den c → E.Den t) : FnW E
  | [x, y, z] => match castV a x with
    | some x => match castV b y with
      | some y => match castV c z with
        | some z => some (ok x y z, [⟨t, F x y z⟩])
        | none => none
      | none => none
    | none => none
  | _ => none
/-- One argument, two results. -/
def fn12 (a t u : E.Ty) (ok : E.Den a → Bool) (F : E.Den a → E.Den t) (G : E.Den a → E.Den u) : FnW E
  | [x] => match castV a x with
    | some x => some (ok x, [⟨t, F x⟩, ⟨u, G x⟩])
    | none => none
  | _ => none
end

section
variable {P : Program} {E : Env P} {O : Oracle E} {masks : Hint E} {f : FuncId} {fn : Func}

theorem fnOk_of (hO : OracleOk E O) (hmix : P.follows .mixedOrders = true) (hf : P.funcs[f]? = some fn) (hn : (fn.name == "runtime.NumGoroutine") = false) (hb : fn.body.isNone = false) {F : FnW E}
    (h : ∀ args res, F args = some (true, res) → runE O masks (Gr E fn res) fn args = some res) : FnOk E f F :=
  ⟨⟨fn, hf, hn, hb⟩, fun args res hr => callsOk_of hO hmix hf (h args res hr)⟩

theorem fn0_ok {t : E.Ty} {ok : Bool} {F : E.Den t} (hO : OracleOk E O) (hmix : P.follows .mixedOrders = true) (hf : P.funcs[f]? = some fn) (hn : (fn.name == "runtime.NumGoroutine") = false) (hb : fn.body.isNone = false)
    (h : ok = true → runE O masks (Gr E fn [⟨t, F⟩]) fn [] = some [⟨t, F⟩]) : FnOk E f (fn0 t ok F) := by
  refine fnOk_of (masks := masks) hO hmix hf hn hb fun args res hr => ?_
  unfold fn0 at hr
  split at hr
  · cases hr; exact h rfl
  · cases hr

theorem fn1_ok {a t : E.Ty} {ok : E.Den a → Bool} {F : E.Den a → E.Den t} (hO : OracleOk E O) (hmix : P.follows .mixedOrders = true) (hf : P.funcs[f]? = some fn) (hn : (fn.name == "runtime.NumGoroutine") = false) (hb : fn.body.isNone = false)
    (h : ∀ x, ok x = true → runE O masks (Gr E fn [⟨t, F x⟩]) fn [⟨a, x⟩] = some [⟨t, F x⟩]) : FnOk E f (fn1 a t ok F) := by
  refine fnOk_of (masks := masks) hO hmix hf hn hb fun args res hr => ?_
  unfold fn1 at hr
  split at hr
  · split at hr
    · rename_i x hx
      injection hr with hr
      injection hr with h1 h2
      subst h2
      rw [castV_eq hx]
      exact h _ h1
    · cases hr
  · cases hr

theorem fn2_ok {a b t : E.Ty} {ok : E.Den a → E.Den b → Bool} {F : E.Den a → E.Den b → E.Den t} (hO : OracleOk E O) (hmix : P.follows .mixedOrders = true) (hf : P.funcs[f]? = some fn) (hn : (fn.name == "runtime.NumGoroutine") = false) (hb : fn.body.isNone = false)
    (h : ∀ x y, ok x y = true → runE O masks (Gr E fn [⟨t, F x y⟩]) fn [⟨a, x⟩, ⟨b, y⟩] = some [⟨t, F x y⟩]) : FnOk E f (fn2 a b t ok F) := by
  refine fnOk_of (masks := masks) hO hmix hf hn hb fun args res hr => ?_
  unfold fn2 at hr
  split at hr
  · split at hr
    · rename_i x hx
      split at hr
      · rename_i y hy
        injection hr with hr
        injection hr with h1 h2
        subst h2
        rw [castV_eq hx, castV_eq hy]
        exact h _ _ h1
      · cases hr
    · cases hr
  · cases hr

theorem fn22_ok {a b t u : E.Ty} {ok : E.Den a → E.Den b → Bool} {F : E.Den a → E.Den b → E.Den t} {G' : E.Den a → E.Den b → E.Den u} (hO : OracleOk E O) (hmix : P.follows .mixedOrders = true) (hf : P.funcs[f]? = some fn) (hn : (fn.name == "runtime.NumGoroutine") = false) (hb : fn.body.isNone = false)
    (h : ∀ x y, ok x y = true → runE O masks (Gr E fn [⟨t, F x y⟩, ⟨u, G' x y⟩]) fn [⟨a, x⟩, ⟨b, y⟩] = some [⟨t, F x y⟩, ⟨u, G' x y⟩]) : FnOk E f (fn22 a b t u ok F G') := by
  refine fnOk_of (masks := masks) hO hmix hf hn hb fun args res hr => ?_
  unfold fn22 at hr
  split at hr
  · split at hr
    · rename_i x hx
      split at hr
      · rename_i y hy
        injection hr with hr
        injection hr with h1 h2
        subst h2
        rw [castV_eq hx, castV_eq hy]
        exact h _ _ h1
      · cases hr
    · cases hr
  · cases hr


theorem fn1_bot {a t : E.Ty} {ok : E.Den a → Bool} {F : E.Den a → E.Den t} (ex : ∃ fn, P.funcs[f]? = some fn ∧ (fn.name == "runtime.NumGoroutine") = false ∧ fn.body.isNone = false) (h : ∀ x, ok x = false) : FnOk E f (fn1 a t ok F) :=
  ⟨ex, fun args r hr => by
    unfold fn1 at hr
    split at hr
    · split at hr
      · rw [h] at hr
        cases hr
      · cases hr
    · cases hr⟩
theorem fn2_bot {a b t : E.Ty} {ok : E.Den a → E.Den b → Bool} {F : E.Den a → E.Den b → E.Den t} (ex : ∃ fn, P.funcs[f]? = some fn ∧ (fn.name == "runtime.NumGoroutine") = false ∧ fn.body.isNone = false) (h : ∀ x y, ok x y = false) : FnOk E f (fn2 a b t ok F) :=
  ⟨ex, fun args r hr => by
    unfold fn2 at hr
    split at hr
    · split at hr
      · split at hr
        · rw [h] at hr
          cases hr
        · cases hr
      · cases hr
    · cases hr⟩
theorem fn3_bot {a b c t : E.Ty} {ok : E.Den a → E.Den b → E.Den c → Bool} {F : E.Den a → E.Den b → E.Den c → E.Den t} (ex : ∃ fn, P.funcs[f]? = some fn ∧ (fn.name == "runtime.NumGoroutine") = false ∧ fn.body.isNone = false) (h : ∀ x y z, ok x y z = false) : FnOk E f (fn3 a b c t ok F) :=
  ⟨ex, fun args r hr => by
    unfold fn3 at hr
    split at hr
    · split at hr
      · split at hr
        · split at hr
          · rw [h] at hr
            cases hr
          · cases hr
        · cases hr
      · cases hr
    · cases hr⟩
theorem fn3_ok {a b c t : E.Ty} {ok : E.Den a → E.Den b → E.Den c → Bool} {F : E.Den a → E.Den b → E.Den c → E.Den t} (hO : OracleOk E O) (hmix : P.follows .mixedOrders = true) (hf : P.funcs[f]? = some fn) (hn : (fn.name == "runtime.NumGoroutine") = false) (hb : fn.body.isNone = false)
    (h : ∀ x y z, ok x y z = true → runE O masks (Gr E fn [⟨t, F x y z⟩]) fn [⟨a, x⟩, ⟨b, y⟩, ⟨c, z⟩] = some [⟨t, F x y z⟩]) : FnOk E f (fn3 a b c t ok F) := by
  refine fnOk_of (masks := masks) hO hmix hf hn hb fun args res hr => ?_
  unfold fn3 at hr
  split at hr
  · split at hr
    · rename_i x hx
      split at hr
      · rename_i y hy
        split at hr
        · rename_i z hz
          injection hr with hr
          injection hr with h1 h2
          subst h2
          rw [castV_eq hx, castV_eq hy, castV_eq hz]
          exact h _ _ _ h1
        · cases hr
      · cases hr
    · cases hr
  · cases hr

theorem fn12_ok {a t u : E.Ty} {ok : E.Den a → Bool} {F : E.Den a → E.Den t} {G : E.Den a → E.Den u} (hO : OracleOk E O) (hmix : P.follows .mixedOrders = true) (hf : P.funcs[f]? = some fn) (hn : (fn.name == "runtime.NumGoroutine") = false) (hb : fn.body.isNone = false)
    (h : ∀ x, ok x = true → runE O masks (Gr E fn [⟨t, F x⟩, ⟨u, G x⟩]) fn [⟨a, x⟩] = some [⟨t, F x⟩, ⟨u, G x⟩]) : FnOk E f (fn12 a t u ok F G) := by
  refine fnOk_of (masks := masks) hO hmix hf hn hb fun args res hr => ?_
  unfold fn12 at hr
  split at hr
  · split at hr
    · rename_i x hx
      injection hr with hr
      injection hr with h1 h2
      subst h2
      rw [castV_eq hx]
      exact h _ h1
    · cases hr
  · cases hr
end
end Go.Proofs.YtfoflgciceckoaaGreatDoor.Mir
