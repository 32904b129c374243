/- The Mirror, part X: functions without loops, walked where they are called: upon the caller's own objects (pointer receivers, captured places). -/
import Derived.Test.YtdpjmdgeeogmgaaGreatDoorMirQ
namespace Go.Proofs.YtdpjmdgeeogmgaaGreatDoor.Mir
open Go Go.RowKit

section
variable {P : Program} {E : Env P}
def argsI : List (AV E) → Nat → List (Nat × AV E)
  | [], _ => []
  | v :: r, i => (i, bif isCond v then .any else v) :: argsI r (i + 1)
def startI (fn : Func) (args : List (AV E)) (objs : List (Nat × AObj E)) (next : Nat) : ASt E := ⟨args.length + (fn.ntmps - args.length), argsI args 0, objs, next⟩
def valsA (S : ASt E) : List ResultVar → Option (List (AV E))
  | [] => some []
  | r :: rs => match valA S r with
    | some v => (match isCond v with
      | true => none
      | false => (match valsA S rs with
        | some vs => some (v :: vs)
        | none => none))
    | none => none
def endI {R : Type} (fn : Func) (k : AV E → List (Nat × AObj E) → Nat → Option R) (e : AExit) (S : ASt E) : Option R := match e with
  | .exit _ => none
  | _ => match valsA S fn.results.toList with
    | some [v] => k v S.objs S.next
    | some vs => k (.tup vs) S.objs S.next
    | none => none
def mkI (O : Oracle E) (tbl : List (FuncId × Func)) : Nat → Inl E
  | 0 => .nil
  | n + 1 => ⟨fun f => (look tbl f).isSome, fun f args objs next k => match look tbl f with
    | some fn => match fn.body with
      | some c => evCode { O with inl := mkI O tbl n } {} (fun _ _ => none) 0 c (startI fn args objs next) (endI fn k)
      | none => none
    | none => none⟩
/-- An oracle, and functions that are walked where they are called. -/
def withI (O : Oracle E) (tbl : List (FuncId × Func)) : Oracle E := { O with inl := mkI O tbl 4 }

theorem argsI_look : ∀ {args : List (AV E)} {i t : Nat} {x : AV E}, look (argsI args i) t = some x → i ≤ t ∧ ∃ y, args[t - i]? = some y ∧ x = bif isCond y then .any else y
  | [], _, _, _, h => by cases h
  | v :: r, i, t, x, h => by
    simp only [argsI, look] at h
    split at h
    · rename_i hb
      have := Nat.eq_of_beq_eq_true hb
      subst this
      cases h
      exact ⟨Nat.le_refl _, v, by simp, rfl⟩
    · rename_i hb
      obtain ⟨h1, z, h2, h3⟩ := argsI_look h
      have hne : t ≠ i := fun e => by subst e; omega
      exact ⟨by omega, z, by rw [show t - i = (t - (i + 1)) + 1 from by omega]; simpa using h2, h3⟩
theorem argsI_noCond : ∀ (args : List (AV E)) (i : Nat), NoCond (argsI args i)
  | [], _ => fun p h => by cases h
  | v :: r, i => fun p h => by
    cases h with
    | head =>
      cases hc : isCond v with
      | true => rfl
      | false => exact hc
    | tail _ h => exact argsI_noCond r (i + 1) p h
theorem valsA_rep {w0 : Start} {ro0 : Nat → Nat → Prop} {S : ASt E} {a : Act} {w : World} {ι : Nat → Option Gh} {ro : Nat → Nat → Prop} (hg : Gam E w0 ro0 S a w ι ro) : ∀ {rs : List ResultVar} {xs : List (AV E)}, valsA S rs = some xs →
    ∃ vs : List Value, (rs.mapM (resV a.tmps)).run P w = Result.ok vs w ∧ vs.length = xs.length ∧ ∀ (i : Nat) v x, vs[i]? = some v → xs[i]? = some x → Rep E w ro ι v x ∧ isCond x = false
  | [], xs, h => by cases h; exact ⟨[], by simp, rfl, fun i v x hv => by simp at hv⟩
  | r :: rs, xs, h => by
    unfold valsA at h
    split at h
    · rename_i v hv
      split at h
      · cases h
      · rename_i hc
        split at h
        · rename_i ys hys
          cases h
          obtain ⟨u, hu, hr⟩ := valA_rep hg hv
          obtain ⟨us, hus, hl, hrs⟩ := valsA_rep hg hys
          refine ⟨u :: us, by rw [List.mapM_cons]; simp only [Sem.run_bind, hu, Result.andThen_ok, hus, Sem.run_pure], by simp [hl], fun i v' x' h1 h2 => ?_⟩
          cases i with
          | zero => simp at h1 h2; subst h1; subst h2; exact ⟨hr, hc⟩
          | succ i => exact hrs i v' x' (by simpa using h1) (by simpa using h2)
        · cases h
    · cases h
def EndIP {R : Type} (E : Env P) (k : AV E → List (Nat × AObj E) → Nat → Option R) (rr : R) (w0 : Start) (ro0 : Nat → Nat → Prop) (e : Ending) (w' : World) : Prop :=
  ∃ (v : Value) (x : AV E) (objs' : List (Nat × AObj E)) (next' : Nat) (ι' : Nat → Option Gh) (ro' : Nat → Nat → Prop) (a' : Act), e = .returned v ∧ k x objs' next' = some rr ∧ Rep E w' ro' ι' v x ∧ Base w0 ro0 a' w' ι' ro' ∧
    (∀ (id : Nat) o, look objs' id = some o → ObjOk E w' ro' ι' id o) ∧ Inj E objs' ι' ∧ (∀ id, next' ≤ id → ι' id = none) ∧ (∀ id o, look objs' id = some o → id < next')
theorem endI_sound {R : Type} {fn : Func} {k : AV E → List (Nat × AObj E) → Nat → Option R} {rr : R} {w0 : Start} {ro0 : Nat → Nat → Prop} {e : AExit} {S' : ASt E} {a' : Act} {w' : World} {ι' : Nat → Option Gh} {ro' : Nat → Nat → Prop} (hg' : Gam E w0 ro0 S' a' w' ι' ro') (hk : endI fn k e S' = some rr) :
    bodyPost P fn (EndIP E k rr w0 ro0) e.toExit a' w' := by
  have fin : (match valsA S' fn.results.toList with | some [v] => k v S'.objs S'.next | some vs => k (.tup vs) S'.objs S'.next | none => none) = some rr → a'.defers = [] ∧ ∃ v, (results fn a'.tmps).run P w' = .ok v w' ∧ EndIP E k rr w0 ro0 (.returned v) w' := by
    intro h
    cases hv : valsA S' fn.results.toList with
    | none => rw [hv] at h; cases h
    | some xs =>
      rw [hv] at h
      obtain ⟨vs, hvs, hl, hrep⟩ := valsA_rep hg' hv
      refine ⟨hg'.base.defers, if h : vs.length = 1 then vs[0] else .tuple vs.toArray, ?_, ?_⟩
      · show (do let vs ← fn.results.mapM (resV a'.tmps); pure (if h : vs.size = 1 then vs[0] else .tuple vs) : Sem Value).run P w' = _
        rw [Array.mapM_eq_mapM_toList]
        simp only [Sem.run_bind, Sem.run_map, hvs]
        simp [Result.andThen]
      · by_cases h1 : vs.length = 1
        · rw [dif_pos h1]
          match xs, hl, h, hrep with
          | [x], _, h, hrep => exact ⟨_, x, _, _, ι', ro', a', rfl, h, (hrep 0 _ x (List.getElem?_eq_getElem (by omega)) rfl).1, hg'.base, hg'.objs, hg'.inj, hg'.fresh, hg'.ids⟩
          | [], hl, _, _ => exact absurd (h1.symm.trans hl) (by simp)
          | _ :: _ :: _, hl, _, _ => exact absurd (h1.symm.trans hl) (by simp)
        · rw [dif_neg h1]
          have h : k (.tup xs) S'.objs S'.next = some rr := by
            match xs, hl, h with
            | [x], hl, _ => exact absurd hl h1
            | [], _, h => exact h
            | _ :: _ :: _, _, h => exact h
          exact ⟨_, .tup xs, _, _, ι', ro', a', rfl, h, .tup _ _ (by simpa using hl) (fun j v x hv hx => (hrep j v x (by simpa using hv) hx).1), hg'.base, hg'.objs, hg'.inj, hg'.fresh, hg'.ids⟩
  cases e with
  | normal => exact fin hk
  | ret => exact fin hk
  | exit id => cases hk

def TblOk (P : Program) (tbl : List (FuncId × Func)) : Prop := ∀ p ∈ tbl, P.funcs[p.1]? = some p.2 ∧ (p.2.name == "runtime.NumGoroutine") = false ∧ p.2.body.isNone = false
theorem TblOk.nil : TblOk P [] := fun p h => by cases h
theorem TblOk.cons {f : FuncId} {fn : Func} {l : List (FuncId × Func)} (h1 : P.funcs[f]? = some fn) (h2 : (fn.name == "runtime.NumGoroutine") = false) (h3 : fn.body.isNone = false) (hl : TblOk P l) : TblOk P ((f, fn) :: l) := fun p hp => by
  cases hp with
  | head => exact ⟨h1, h2, h3⟩
  | tail _ hp => exact hl p hp

theorem mkI_ok {O : Oracle E} (hO : OracleOk E O) (hmix : P.follows .mixedOrders = true) {tbl : List (FuncId × Func)} (ht : TblOk P tbl) : ∀ n, InlOk E (mkI O tbl n)
  | 0 => fun f args objs next k rr h => by cases h
  | n + 1 => fun f args objs next k rr h => by
    have hO' : OracleOk E { O with inl := mkI O tbl n } := ⟨hO.1, hO.2.1, hO.2.2.1, hO.2.2.2.1, mkI_ok hO hmix ht n⟩
    simp only [mkI] at h
    split at h
    · rename_i fn hl
      obtain ⟨hf, hname, hbody⟩ := ht _ (look_mem _ _ _ hl)
      split at h
      · rename_i c hc
        refine ⟨⟨fn, hf, hname, hbody⟩, fun w0 ro0 a w ι ro vals hb ho hi hfr hids hlen hargs => ?_⟩
        let w1 : Start := ⟨w0.w, w0.x, some ⟨w, ro, ι⟩⟩
        refine (calls_of_wp (R := EndIP E k rr w1 ro0) hf hc ?_).mono fun e w' he => by
          obtain ⟨v, x, objs', next', ι', ro', a', h1, h2, h3, h4, h5, h6, h7, h8⟩ := he
          obtain ⟨q1, q2⟩ := h4.keep _ rfl
          exact ⟨v, x, objs', next', ι', ro', h1, h2, h3, ⟨h4.below, h4.rolt, h4.ronew, h4.ilt, hb.defers, fun q hq => by
            obtain ⟨p1, p2⟩ := hb.keep q hq
            exact ⟨fun k o h => ⟨(q1 k o (p1 k o h).1).1, (q1 k o (p1 k o h).1).2.trans (p1 k o h).2⟩, fun id gh h => q2 id gh (p2 id gh h)⟩⟩, h5, h6, h7, h8, q1, q2⟩
        have hg : Gam E w1 ro0 (startI fn args objs next) { tmps := vals.toArray ++ Array.replicate (fn.ntmps - vals.toArray.size) undef, defers := [] } w ι ro := {
          base := ⟨hb.below, hb.rolt, hb.ronew, hb.ilt, rfl, fun q hq => by cases hq; exact ⟨fun k o h => ⟨h, rfl⟩, fun _ _ h => h⟩⟩
          size := by simp [startI, hlen]
          tmps := fun t x hl => by
            obtain ⟨_, y, hy, rfl⟩ := argsI_look hl
            rw [Nat.sub_zero] at hy
            have hlt : t < vals.length := by rw [hlen]; exact (List.getElem?_eq_some_iff.1 hy).1
            have hv := List.getElem?_eq_getElem hlt
            refine ⟨vals[t], by simp [Array.getElem?_append, hlt], ?_⟩
            have hr : Rep E w ro ι vals[t] y := hargs t _ y hv hy
            cases hcy : isCond y with
            | true => exact Rep.any _
            | false =>
              rw [cond_false]
              cases y <;> first | exact hr | cases hcy
          objs := ho
          inj := hi
          fresh := hfr
          ids := hids }
        exact evCode_sound (n := (startI fn args objs next).n) (Q0 := bodyPost P fn (EndIP E k rr w1 ro0)) (c0 := c) hO' hmix (fun i S hi => by cases hi) c 0 (startI fn args objs next) (endI fn k) _ _ w _ ro Placed.whole (argsI_noCond args 0) hg rfl h
          fun e S' a' w' ι' ro' _ h2 _ h4 => endI_sound h2 h4
      · cases h
    · cases h
theorem withI_ok {O : Oracle E} (hO : OracleOk E O) (hmix : P.follows .mixedOrders = true) {tbl : List (FuncId × Func)} (ht : TblOk P tbl) : OracleOk E (withI O tbl) := ⟨hO.1, hO.2.1, hO.2.2.1, hO.2.2.2.1, mkI_ok hO hmix ht 4⟩
end
end Go.Proofs.YtdpjmdgeeogmgaaGreatDoor.Mir
