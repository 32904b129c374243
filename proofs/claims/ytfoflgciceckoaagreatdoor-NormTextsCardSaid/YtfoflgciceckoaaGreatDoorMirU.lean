/- The Mirror, part U: functions that are handed a row of their caller's own, and hand a row back. -/
import Derived.Test.YtfoflgciceckoaaGreatDoorMirQ
namespace Go.Proofs.YtfoflgciceckoaaGreatDoor.Mir
open Go Go.RowKit

section
variable {P : Program} {E : Env P}

/-- A row's list. -/
abbrev TL (E : Env P) := (t : E.Ty) × List (E.Den t)

def startM (fn : Func) (t : E.Ty) (l : List (E.Den t)) (rest : List (TV E)) : ASt E := ⟨(rest.length + 1) + (fn.ntmps - (rest.length + 1)), (0, .row t l.length 0) :: argsT rest 1, [(0, .row t l)], 1⟩

def rowA (S : ASt E) : AV E → Option (TL E)
  | .row _ _ id => match look S.objs id with
    | some (.row t l) => some ⟨t, l⟩
    | _ => none
  | _ => none

def endM (fn : Func) (e : AExit) (S : ASt E) : Option (TL E) := match e with
  | .exit _ => none
  | .goto _ => none
  | _ => match fn.results.toList with
    | [r] => (match valA S r with
      | some v => rowA S v
      | none => none)
    | _ => none

def runEM (O : Oracle E) (h : Hint E) (G : Nat → ASt E → Option (TL E)) (fn : Func) (t : E.Ty) (l : List (E.Den t)) (rest : List (TV E)) : Option (TL E) := match fn.body with
  | some c => evCode O h G 0 c (startM fn t l rest) (endM fn)
  | none => none
def runLM (O : Oracle E) (h : Hint E) (G : Nat → ASt E → Option (TL E)) (fn : Func) (j : Nat) (S : ASt E) : Option (TL E) := match fn.body with
  | some c => segC O h G c j S (endM fn)
  | none => none

/-- What is to hold at such a function's end. -/
def EndMP (E : Env P) (res : TL E) (w : World) (gh : Gh) (ro : Nat → Nat → Prop) (e : Ending) (w' : World) : Prop := ∃ (gh' : Gh) (xs' : List Value), e = .returned gh'.v ∧ w.grownBy w' gh.blk ∧ gh'.n = res.2.length ∧ gh'.e = E.tid res.1 ∧ gh'.sz = E.size res.1 ∧ OwnT w' gh' xs' ∧
    RowD E w' (fun k o => ro k o ∨ (gh'.blk ≠ some k ∧ (gh.blk = some k ∨ w.heap.size ≤ k ∧ k < w'.heap.size))) res.1 xs' res.2 ∧ (∀ g, gh'.blk = some g → gh.blk = some g ∨ w.heap.size ≤ g)
def EndMOk (E : Env P) (fn : Func) (res : TL E) (w : World) (gh : Gh) (ro : Nat → Nat → Prop) : Exit → Act → World → Prop := bodyPost P fn (EndMP E res w gh ro)

theorem endM_sound {fn : Func} {res : TL E} {w : World} {gh : Gh} {ro : Nat → Nat → Prop} {e : AExit} {S' : ASt E} {a' : Act} {w' : World} {ι' : Nat → Option Gh} {ro' : Nat → Nat → Prop} (hg' : Gam E ⟨w, gh.blk, none⟩ ro S' a' w' ι' ro') (hk : endM fn e S' = some res) :
    EndMOk E fn res w gh ro e.toExit a' w' := by
  have fin : ∀ r, fn.results.toList = [r] → (match valA S' r with | some v => rowA S' v | none => none) = some res → a'.defers = [] ∧ ∃ v, (results fn a'.tmps).run P w' = .ok v w' ∧
      EndMP E res w gh ro (.returned v) w' := by
    intro r hr hres
    cases hv : valA S' r with
    | none => rw [hv] at hres; cases hres
    | some v =>
      rw [hv] at hres
      simp only at hres
      obtain ⟨u, hrun, hrep⟩ := valA_rep hg' hv
      unfold rowA at hres
      split at hres
      · rename_i t0 n0 id
        split at hres
        · rename_i t l hob
          cases hres
          cases hrep with
          | row gh' _ _ ad cap hi h2 h3 h4 h5 =>
            obtain ⟨gh2, xs, hi2, hn, hge, hgs, hown, hrow, hnro⟩ := hg'.objs id _ hob
            rw [hi] at hi2
            cases hi2
            refine ⟨hg'.base.defers, gh'.v, ?_, gh', xs, rfl, hg'.base.below, hn, hge, hgs, hown, hrow.mono (fun k o hk => ?_) (fun _ _ _ => rfl), fun g hg => ?_⟩
            · show (do let vs ← fn.results.mapM (resV a'.tmps); pure (if h : vs.size = 1 then vs[0] else .tuple vs) : Sem Value).run P w' = _
              rw [Array.mapM_eq_mapM_toList, hr]
              simp only [Sem.run_bind, Sem.run_map, List.mapM_cons, List.mapM_nil, hrun, Result.andThen_ok, Sem.run_pure]
              simp [Result.andThen]
            · have hne : gh'.blk ≠ some k := fun e => hnro k e o hk
              rcases hg'.base.ronew k o hk with h | h | h
              · exact .inl h
              · exact .inr ⟨hne, .inr ⟨h, hg'.base.rolt k o hk⟩⟩
              · exact .inr ⟨hne, .inl h⟩
            · rcases (hg'.base.ilt id gh' g hi hg).1 with h | h
              · exact .inr h
              · exact .inl h
        · cases hres
      · cases hres
  cases e with
  | normal =>
    unfold endM at hk
    split at hk
    · rename_i h; cases h
    · rename_i h; cases h
    · split at hk
      · rename_i r hr; exact fin r hr hk
      · cases hk
  | ret =>
    unfold endM at hk
    split at hk
    · rename_i h; cases h
    · rename_i h; cases h
    · split at hk
      · rename_i r hr; exact fin r hr hk
      · cases hk
  | exit id => cases hk
  | goto l => cases hk

def EvM (E : Env P) (fn : Func) (res : TL E) (i : Nat) (S : ASt E) : Prop :=
  ∀ (w0 : World) (gh : Gh) ro0 n c, fn.body = some c → HdOk E ⟨w0, gh.blk, none⟩ ro0 n c (EndMOk E fn res w0 gh ro0) i S

open Classical in
noncomputable def GrM (E : Env P) (fn : Func) (res : TL E) (i : Nat) (S : ASt E) : Option (TL E) := if EvM E fn res i S then some res else none
theorem GrM_of {fn : Func} {res : TL E} {i : Nat} {S : ASt E} (h : EvM E fn res i S) : GrM E fn res i S = some res := if_pos h
theorem GrM_ev {fn : Func} {res r : TL E} {i : Nat} {S : ASt E} (h : GrM E fn res i S = some r) : EvM E fn r i S := by
  unfold GrM at h
  split at h
  · cases h; assumption
  · cases h

variable {O : Oracle E} {h : Hint E}
theorem EvM.step (hO : OracleOk E O) (hmix : P.follows .mixedOrders = true) {fn : Func} {res : TL E} {j : Nat} {S : ASt E} (hs : runLM O h (GrM E fn res) fn j S = some res) : EvM E fn res j S := by
  intro w0 gh ro0 n c hc
  unfold runLM at hs
  rw [hc] at hs
  exact segC_sound hO hmix (fun i S hi => ⟨rfl, GrM_ev hi w0 gh ro0 n c hc⟩) (fun e S' a' w' ι' ro' _ h2 _ h4 => endM_sound h2 h4) hs

theorem argsT_noCond1 (args : List (TV E)) (t : E.Ty) (n i : Nat) : NoCond ((0, AVal.row t n i) :: argsT args 1) := fun p hp => by
  cases hp with
  | head => rfl
  | tail _ hp => exact argsT_noCond args 1 p hp

theorem callsMut_of (hO : OracleOk E O) (hmix : P.follows .mixedOrders = true) {f : FuncId} {fn : Func} (hf : P.funcs[f]? = some fn) {t : E.Ty} {l l' : List (E.Den t)} {rest : List (TV E)} (hr : runEM O h (GrM E fn ⟨t, l'⟩) fn t l rest = some ⟨t, l'⟩) : CallsMut E f t l rest true l' := by
  unfold runEM at hr
  split at hr
  · rename_i c hc
    intro w ro gh xs vals hn hge hgs hown hrow hnro hargs hrolt
    obtain ⟨hlen, hat⟩ := ArgsRep.at_ vals rest hargs
    refine (calls_of_wp (R := EndMP E ⟨t, l'⟩ w gh ro) hf hc ?_).mono fun e w' he => by
      obtain ⟨gh', xs', h1, h2, h3, h4, h5, h6, h7, h8⟩ := he
      exact ⟨_, gh', xs', h1, h2, h3, h4, h5, h6, h7, h8, (fun _ => rfl), (fun h => by cases h)⟩
    obtain ⟨ad, cap, hgv, had⟩ := hown.shape
    let ι : Nat → Option Gh := fun id => if id = 0 then some gh else none
    have hι : ∀ id g, ι id = some g → id = 0 ∧ g = gh := by
      intro id g hg
      simp only [ι] at hg
      split at hg
      · cases hg; exact ⟨by assumption, rfl⟩
      · cases hg
    have hg : Gam E ⟨w, gh.blk, none⟩ ro (startM fn t l rest) { tmps := (gh.v :: vals).toArray ++ Array.replicate (fn.ntmps - (gh.v :: vals).toArray.size) undef, defers := [] } w ι ro := {
      base := ⟨⟨rfl, rfl, rfl, Nat.le_refl _, fun _ _ _ => rfl⟩, hrolt, fun k o h => .inl h, (fun id g k h hb => by
        obtain ⟨_, rfl⟩ := hι id g h
        exact ⟨.inr hb, hown.lt hb⟩), rfl, (fun q h => by cases h)⟩
      size := by simp [startM, hlen]
      tmps := fun q x hl => by
        simp only [startM, look] at hl
        split at hl
        · rename_i hb
          have := Nat.eq_of_beq_eq_true hb
          subst this
          cases hl
          refine ⟨gh.v, by simp [Array.getElem?_append], ?_⟩
          have : Rep E w ro ι gh.v (.row t gh.n 0) := .row gh t 0 ad cap rfl hge hgs hgv had
          rw [hn] at this
          exact this
        · obtain ⟨h1, y, hy, rfl⟩ := argsT_look hl
          obtain ⟨m, rfl⟩ : ∃ m, q = m + 1 := ⟨q - 1, by omega⟩
          rw [Nat.add_sub_cancel] at hy
          have hlt : m < vals.length := by rw [hlen]; exact (List.getElem?_eq_some_iff.1 hy).1
          have hv := List.getElem?_eq_getElem hlt
          refine ⟨vals[m], by simp [Array.getElem?_append, hlt], ?_⟩
          have hr : Rep E w ro ι vals[m] (expandA y.1 y.2) := expandA_rep (hat m _ y hv hy)
          have hc := expandA_noCond (E := E) (t := y.1) (x := y.2)
          generalize expandA y.1 y.2 = z at hr hc
          cases z <;> first | exact hr | cases hc
      objs := fun id o hl => by
        simp only [startM, look] at hl
        split at hl
        · rename_i hb
          have := Nat.eq_of_beq_eq_true hb
          subst this
          cases hl
          exact ⟨gh, xs, rfl, hn, hge, hgs, hown, hrow, hnro⟩
        · cases hl
      inj := fun id id' o o' g g' k hl hl' _ _ h1 h2 _ _ => by
        obtain ⟨rfl, _⟩ := hι id g h1
        obtain ⟨rfl, _⟩ := hι id' g' h2
        rfl
      fresh := fun id h => by
        have h : 1 ≤ id := h
        exact if_neg (by omega)
      ids := fun id o hl => by
        simp only [startM, look] at hl
        split at hl
        · rename_i hb
          have := Nat.eq_of_beq_eq_true hb
          show id < 1
          omega
        · cases hl }
    exact evCode_sound (n := (startM fn t l rest).n) (Q0 := EndMOk E fn ⟨t, l'⟩ w gh ro) (c0 := c) hO hmix (fun i S hi => ⟨rfl, GrM_ev hi w gh ro _ c hc⟩) c 0 (startM fn t l rest) (endM fn) _ _ w _ ro Placed.whole (fun _ => rfl) (argsT_noCond1 rest t _ 0) hg rfl hr
      fun e S' a' w' ι' ro' _ h2 _ h4 => endM_sound h2 h4
  · cases hr

variable {f : FuncId} {fn : Func}
def mut1 (a b : E.Ty) (back : Bool) (ok : List (E.Den a) → E.Den b → Bool) (F : List (E.Den a) → E.Den b → List (E.Den a)) : FnM E := fun t l rest => match castL t a l, rest with
  | some x, [p] => (match castV b p with
    | some p => (match castL a t (F x p) with
      | some y => some (ok x p, back, y)
      | none => none)
    | none => none)
  | _, _ => none
def mut2 (a b c : E.Ty) (back : Bool) (ok : List (E.Den a) → E.Den b → E.Den c → Bool) (F : List (E.Den a) → E.Den b → E.Den c → List (E.Den a)) : FnM E := fun t l rest => match castL t a l, rest with
  | some x, [p, q] => (match castV b p, castV c q with
    | some p, some q => (match castL a t (F x p q) with
      | some y => some (ok x p q, back, y)
      | none => none)
    | _, _ => none)
  | _, _ => none
def mut3 (a b c d : E.Ty) (back : Bool) (ok : List (E.Den a) → E.Den b → E.Den c → E.Den d → Bool) (F : List (E.Den a) → E.Den b → E.Den c → E.Den d → List (E.Den a)) : FnM E := fun t l rest => match castL t a l, rest with
  | some x, [p, q, r] => (match castV b p, castV c q, castV d r with
    | some p, some q, some r => (match castL a t (F x p q r) with
      | some y => some (ok x p q r, back, y)
      | none => none)
    | _, _, _ => none)
  | _, _ => none

theorem castL_two {a t : E.Ty} {l : List (E.Den t)} {x : List (E.Den a)} (h : castL t a l = some x) : (⟨t, l⟩ : TL E) = ⟨a, x⟩ := by
  obtain ⟨e, rfl⟩ := castL_eq h
  subst e
  rfl
theorem mutOk_of (hO : OracleOk E O) (hmix : P.follows .mixedOrders = true) (hf : P.funcs[f]? = some fn) (hn : (fn.name == "runtime.NumGoroutine") = false) (hb : fn.body.isNone = false) {F : FnM E}
    (hF : ∀ t l rest back l', F t l rest = some (true, back, l') → back = true ∧ runEM O h (GrM E fn ⟨t, l'⟩) fn t l rest = some ⟨t, l'⟩) : MutOk E f F :=
  ⟨⟨fn, hf, hn, hb⟩, fun t l rest back l' hr => by
    obtain ⟨hbk, hrun⟩ := hF t l rest back l' hr
    subst hbk
    exact callsMut_of hO hmix hf hrun⟩
theorem mut3_ok {a b c d : E.Ty} {ok : List (E.Den a) → E.Den b → E.Den c → E.Den d → Bool} {F : List (E.Den a) → E.Den b → E.Den c → E.Den d → List (E.Den a)} (hO : OracleOk E O) (hmix : P.follows .mixedOrders = true) (hf : P.funcs[f]? = some fn) (hn : (fn.name == "runtime.NumGoroutine") = false) (hb : fn.body.isNone = false)
    (hF : ∀ x p q r, ok x p q r = true → runEM O h (GrM E fn ⟨a, F x p q r⟩) fn a x [⟨b, p⟩, ⟨c, q⟩, ⟨d, r⟩] = some ⟨a, F x p q r⟩) : MutOk E f (mut3 a b c d true ok F) := by
  refine mutOk_of (h := h) hO hmix hf hn hb fun t l rest back l' hr => ?_
  unfold mut3 at hr
  split at hr
  · rename_i x p q r hx
    split at hr
    · rename_i p' q' r' hp hq hr'
      have e1 := castV_eq hp
      have e2 := castV_eq hq
      have e3 := castV_eq hr'
      subst e1; subst e2; subst e3
      have ex := castL_two hx
      cases ex
      split at hr
      · rename_i y hy
        have ey := castL_two hy
        simp only [Option.some.injEq, Prod.mk.injEq] at hr
        obtain ⟨h1, h2, h3⟩ := hr
        subst h3
        have ey : F x p' q' r' = y := by cases ey; rfl
        subst ey
        exact ⟨h2.symm, hF x p' q' r' h1⟩
      · cases hr
    · cases hr
  · cases hr
end
end Go.Proofs.YtfoflgciceckoaaGreatDoor.Mir
