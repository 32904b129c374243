/- The Mirror, part W: contracts of functions of several parameters and results. -/
import Derived.Test.YtfoflgciceckoaaGreatDoorMirQ
namespace Go.Proofs.YtfoflgciceckoaaGreatDoor.Mir
open Go Go.RowKit

section
variable {P : Program} {E : Env P} {O : Oracle E} {masks : Hint E} {f : FuncId} {fn : Func}
def fn13 (a0 t0 t1 t2 : E.Ty) (ok : E.Den a0 → Bool) (F0 : E.Den a0 → E.Den t0) (F1 : E.Den a0 → E.Den t1) (F2 : E.Den a0 → E.Den t2) : FnW E
  | [x0] => match castV a0 x0 with
    | some x0 => some (ok x0, [⟨t0, F0 x0⟩, ⟨t1, F1 x0⟩, ⟨t2, F2 x0⟩])
    | _ => none
  | _ => none
theorem fn13_ok {a0 t0 t1 t2 : E.Ty} {ok : E.Den a0 → Bool} {F0 : E.Den a0 → E.Den t0} {F1 : E.Den a0 → E.Den t1} {F2 : E.Den a0 → E.Den t2} (hO : OracleOk E O) (hmix : P.follows .mixedOrders = true) (hf : P.funcs[f]? = some fn) (hn : (fn.name == "runtime.NumGoroutine") = false) (hb : fn.body.isNone = false)
    (h : ∀ x0, ok x0 = true → runE O masks (Gr E fn [⟨t0, F0 x0⟩, ⟨t1, F1 x0⟩, ⟨t2, F2 x0⟩]) fn [⟨a0, x0⟩] = some [⟨t0, F0 x0⟩, ⟨t1, F1 x0⟩, ⟨t2, F2 x0⟩]) : FnOk E f (fn13 a0 t0 t1 t2 ok F0 F1 F2) := by
  refine fnOk_of (masks := masks) hO hmix hf hn hb fun args res hr => ?_
  unfold fn13 at hr
  split at hr
  · split at hr
    · rename_i hx0
      injection hr with hr
      injection hr with h1 h2
      subst h2
      rw [castV_eq hx0]
      exact h _ h1
    · cases hr
  · cases hr
def fn14 (a0 t0 t1 t2 t3 : E.Ty) (ok : E.Den a0 → Bool) (F0 : E.Den a0 → E.Den t0) (F1 : E.Den a0 → E.Den t1) (F2 : E.Den a0 → E.Den t2) (F3 : E.Den a0 → E.Den t3) : FnW E
  | [x0] => match castV a0 x0 with
    | some x0 => some (ok x0, [⟨t0, F0 x0⟩, ⟨t1, F1 x0⟩, ⟨t2, F2 x0⟩, ⟨t3, F3 x0⟩])
    | _ => none
  | _ => none
theorem fn14_ok {a0 t0 t1 t2 t3 : E.Ty} {ok : E.Den a0 → Bool} {F0 : E.Den a0 → E.Den t0} {F1 : E.Den a0 → E.Den t1} {F2 : E.Den a0 → E.Den t2} {F3 : E.Den a0 → E.Den t3} (hO : OracleOk E O) (hmix : P.follows .mixedOrders = true) (hf : P.funcs[f]? = some fn) (hn : (fn.name == "runtime.NumGoroutine") = false) (hb : fn.body.isNone = false)
    (h : ∀ x0, ok x0 = true → runE O masks (Gr E fn [⟨t0, F0 x0⟩, ⟨t1, F1 x0⟩, ⟨t2, F2 x0⟩, ⟨t3, F3 x0⟩]) fn [⟨a0, x0⟩] = some [⟨t0, F0 x0⟩, ⟨t1, F1 x0⟩, ⟨t2, F2 x0⟩, ⟨t3, F3 x0⟩]) : FnOk E f (fn14 a0 t0 t1 t2 t3 ok F0 F1 F2 F3) := by
  refine fnOk_of (masks := masks) hO hmix hf hn hb fun args res hr => ?_
  unfold fn14 at hr
  split at hr
  · split at hr
    · rename_i hx0
      injection hr with hr
      injection hr with h1 h2
      subst h2
      rw [castV_eq hx0]
      exact h _ h1
    · cases hr
  · cases hr
def fn23 (a0 a1 t0 t1 t2 : E.Ty) (ok : E.Den a0 → E.Den a1 → Bool) (F0 : E.Den a0 → E.Den a1 → E.Den t0) (F1 : E.Den a0 → E.Den a1 → E.Den t1) (F2 : E.Den a0 → E.Den a1 → E.Den t2) : FnW E
  | [x0, x1] => match castV a0 x0, castV a1 x1 with
    | some x0, some x1 => some (ok x0 x1, [⟨t0, F0 x0 x1⟩, ⟨t1, F1 x0 x1⟩, ⟨t2, F2 x0 x1⟩])
    | _, _ => none
  | _ => none
theorem fn23_ok {a0 a1 t0 t1 t2 : E.Ty} {ok : E.Den a0 → E.Den a1 → Bool} {F0 : E.Den a0 → E.Den a1 → E.Den t0} {F1 : E.Den a0 → E.Den a1 → E.Den t1} {F2 : E.Den a0 → E.Den a1 → E.Den t2} (hO : OracleOk E O) (hmix : P.follows .mixedOrders = true) (hf : P.funcs[f]? = some fn) (hn : (fn.name == "runtime.NumGoroutine") = false) (hb : fn.body.isNone = false)
    (h : ∀ x0 x1, ok x0 x1 = true → runE O masks (Gr E fn [⟨t0, F0 x0 x1⟩, ⟨t1, F1 x0 x1⟩, ⟨t2, F2 x0 x1⟩]) fn [⟨a0, x0⟩, ⟨a1, x1⟩] = some [⟨t0, F0 x0 x1⟩, ⟨t1, F1 x0 x1⟩, ⟨t2, F2 x0 x1⟩]) : FnOk E f (fn23 a0 a1 t0 t1 t2 ok F0 F1 F2) := by
  refine fnOk_of (masks := masks) hO hmix hf hn hb fun args res hr => ?_
  unfold fn23 at hr
  split at hr
  · split at hr
    · rename_i hx0 hx1
      injection hr with hr
      injection hr with h1 h2
      subst h2
      rw [castV_eq hx0, castV_eq hx1]
      exact h _ _ h1
    · cases hr
  · cases hr
def fn24 (a0 a1 t0 t1 t2 t3 : E.Ty) (ok : E.Den a0 → E.Den a1 → Bool) (F0 : E.Den a0 → E.Den a1 → E.Den t0) (F1 : E.Den a0 → E.Den a1 → E.Den t1) (F2 : E.Den a0 → E.Den a1 → E.Den t2) (F3 : E.Den a0 → E.Den a1 → E.Den t3) : FnW E
  | [x0, x1] => match castV a0 x0, castV a1 x1 with
    | some x0, some x1 => some (ok x0 x1, [⟨t0, F0 x0 x1⟩, ⟨t1, F1 x0 x1⟩, ⟨t2, F2 x0 x1⟩, ⟨t3, F3 x0 x1⟩])
    | _, _ => none
  | _ => none
theorem fn24_ok {a0 a1 t0 t1 t2 t3 : E.Ty} {ok : E.Den a0 → E.Den a1 → Bool} {F0 : E.Den a0 → E.Den a1 → E.Den t0} {F1 : E.Den a0 → E.Den a1 → E.Den t1} {F2 : E.Den a0 → E.Den a1 → E.Den t2} {F3 : E.Den a0 → E.Den a1 → E.Den t3} (hO : OracleOk E O) (hmix : P.follows .mixedOrders = true) (hf : P.funcs[f]? = some fn) (hn : (fn.name == "runtime.NumGoroutine") = false) (hb : fn.body.isNone = false)
    (h : ∀ x0 x1, ok x0 x1 = true → runE O masks (Gr E fn [⟨t0, F0 x0 x1⟩, ⟨t1, F1 x0 x1⟩, ⟨t2, F2 x0 x1⟩, ⟨t3, F3 x0 x1⟩]) fn [⟨a0, x0⟩, ⟨a1, x1⟩] = some [⟨t0, F0 x0 x1⟩, ⟨t1, F1 x0 x1⟩, ⟨t2, F2 x0 x1⟩, ⟨t3, F3 x0 x1⟩]) : FnOk E f (fn24 a0 a1 t0 t1 t2 t3 ok F0 F1 F2 F3) := by
  refine fnOk_of (masks := masks) hO hmix hf hn hb fun args res hr => ?_
  unfold fn24 at hr
  split at hr
  · split at hr
    · rename_i hx0 hx1
      injection hr with hr
      injection hr with h1 h2
      subst h2
      rw [castV_eq hx0, castV_eq hx1]
      exact h _ _ h1
    · cases hr
  · cases hr
def fn32 (a0 a1 a2 t0 t1 : E.Ty) (ok : E.Den a0 → E.Den a1 → E.Den a2 → Bool) (F0 : E.Den a0 → E.Den a1 → E.Den a2 → E.Den t0) (F1 : E.Den a0 → E.Den a1 → E.Den a2 → E.Den t1) : FnW E
  | [x0, x1, x2] => match castV a0 x0, castV a1 x1, castV a2 x2 with
    | some x0, some x1, some x2 => some (ok x0 x1 x2, [⟨t0, F0 x0 x1 x2⟩, ⟨t1, F1 x0 x1 x2⟩])
    | _, _, _ => none
  | _ => none
theorem fn32_ok {a0 a1 a2 t0 t1 : E.Ty} {ok : E.Den a0 → E.Den a1 → E.Den a2 → Bool} {F0 : E.Den a0 → E.Den a1 → E.Den a2 → E.Den t0} {F1 : E.Den a0 → E.Den a1 → E.Den a2 → E.Den t1} (hO : OracleOk E O) (hmix : P.follows .mixedOrders = true) (hf : P.funcs[f]? = some fn) (hn : (fn.name == "runtime.NumGoroutine") = false) (hb : fn.body.isNone = false)
    (h : ∀ x0 x1 x2, ok x0 x1 x2 = true → runE O masks (Gr E fn [⟨t0, F0 x0 x1 x2⟩, ⟨t1, F1 x0 x1 x2⟩]) fn [⟨a0, x0⟩, ⟨a1, x1⟩, ⟨a2, x2⟩] = some [⟨t0, F0 x0 x1 x2⟩, ⟨t1, F1 x0 x1 x2⟩]) : FnOk E f (fn32 a0 a1 a2 t0 t1 ok F0 F1) := by
  refine fnOk_of (masks := masks) hO hmix hf hn hb fun args res hr => ?_
  unfold fn32 at hr
  split at hr
  · split at hr
    · rename_i hx0 hx1 hx2
      injection hr with hr
      injection hr with h1 h2
      subst h2
      rw [castV_eq hx0, castV_eq hx1, castV_eq hx2]
      exact h _ _ _ h1
    · cases hr
  · cases hr
def fn33 (a0 a1 a2 t0 t1 t2 : E.Ty) (ok : E.Den a0 → E.Den a1 → E.Den a2 → Bool) (F0 : E.Den a0 → E.Den a1 → E.Den a2 → E.Den t0) (F1 : E.Den a0 → E.Den a1 → E.Den a2 → E.Den t1) (F2 : E.Den a0 → E.Den a1 → E.Den a2 → E.Den t2) : FnW E
  | [x0, x1, x2] => match castV a0 x0, castV a1 x1, castV a2 x2 with
    | some x0, some x1, some x2 => some (ok x0 x1 x2, [⟨t0, F0 x0 x1 x2⟩, ⟨t1, F1 x0 x1 x2⟩, ⟨t2, F2 x0 x1 x2⟩])
    | _, _, _ => none
  | _ => none
theorem fn33_ok {a0 a1 a2 t0 t1 t2 : E.Ty} {ok : E.Den a0 → E.Den a1 → E.Den a2 → Bool} {F0 : E.Den a0 → E.Den a1 → E.Den a2 → E.Den t0} {F1 : E.Den a0 → E.Den a1 → E.Den a2 → E.Den t1} {F2 : E.Den a0 → E.Den a1 → E.Den a2 → E.Den t2} (hO : OracleOk E O) (hmix : P.follows .mixedOrders = true) (hf : P.funcs[f]? = some fn) (hn : (fn.name == "runtime.NumGoroutine") = false) (hb : fn.body.isNone = false)
    (h : ∀ x0 x1 x2, ok x0 x1 x2 = true → runE O masks (Gr E fn [⟨t0, F0 x0 x1 x2⟩, ⟨t1, F1 x0 x1 x2⟩, ⟨t2, F2 x0 x1 x2⟩]) fn [⟨a0, x0⟩, ⟨a1, x1⟩, ⟨a2, x2⟩] = some [⟨t0, F0 x0 x1 x2⟩, ⟨t1, F1 x0 x1 x2⟩, ⟨t2, F2 x0 x1 x2⟩]) : FnOk E f (fn33 a0 a1 a2 t0 t1 t2 ok F0 F1 F2) := by
  refine fnOk_of (masks := masks) hO hmix hf hn hb fun args res hr => ?_
  unfold fn33 at hr
  split at hr
  · split at hr
    · rename_i hx0 hx1 hx2
      injection hr with hr
      injection hr with h1 h2
      subst h2
      rw [castV_eq hx0, castV_eq hx1, castV_eq hx2]
      exact h _ _ _ h1
    · cases hr
  · cases hr
def fn34 (a0 a1 a2 t0 t1 t2 t3 : E.Ty) (ok : E.Den a0 → E.Den a1 → E.Den a2 → Bool) (F0 : E.Den a0 → E.Den a1 → E.Den a2 → E.Den t0) (F1 : E.Den a0 → E.Den a1 → E.Den a2 → E.Den t1) (F2 : E.Den a0 → E.Den a1 → E.Den a2 → E.Den t2) (F3 : E.Den a0 → E.Den a1 → E.Den a2 → E.Den t3) : FnW E
  | [x0, x1, x2] => match castV a0 x0, castV a1 x1, castV a2 x2 with
    | some x0, some x1, some x2 => some (ok x0 x1 x2, [⟨t0, F0 x0 x1 x2⟩, ⟨t1, F1 x0 x1 x2⟩, ⟨t2, F2 x0 x1 x2⟩, ⟨t3, F3 x0 x1 x2⟩])
    | _, _, _ => none
  | _ => none
theorem fn34_ok {a0 a1 a2 t0 t1 t2 t3 : E.Ty} {ok : E.Den a0 → E.Den a1 → E.Den a2 → Bool} {F0 : E.Den a0 → E.Den a1 → E.Den a2 → E.Den t0} {F1 : E.Den a0 → E.Den a1 → E.Den a2 → E.Den t1} {F2 : E.Den a0 → E.Den a1 → E.Den a2 → E.Den t2} {F3 : E.Den a0 → E.Den a1 → E.Den a2 → E.Den t3} (hO : OracleOk E O) (hmix : P.follows .mixedOrders = true) (hf : P.funcs[f]? = some fn) (hn : (fn.name == "runtime.NumGoroutine") = false) (hb : fn.body.isNone = false)
    (h : ∀ x0 x1 x2, ok x0 x1 x2 = true → runE O masks (Gr E fn [⟨t0, F0 x0 x1 x2⟩, ⟨t1, F1 x0 x1 x2⟩, ⟨t2, F2 x0 x1 x2⟩, ⟨t3, F3 x0 x1 x2⟩]) fn [⟨a0, x0⟩, ⟨a1, x1⟩, ⟨a2, x2⟩] = some [⟨t0, F0 x0 x1 x2⟩, ⟨t1, F1 x0 x1 x2⟩, ⟨t2, F2 x0 x1 x2⟩, ⟨t3, F3 x0 x1 x2⟩]) : FnOk E f (fn34 a0 a1 a2 t0 t1 t2 t3 ok F0 F1 F2 F3) := by
  refine fnOk_of (masks := masks) hO hmix hf hn hb fun args res hr => ?_
  unfold fn34 at hr
  split at hr
  · split at hr
    · rename_i hx0 hx1 hx2
      injection hr with hr
      injection hr with h1 h2
      subst h2
      rw [castV_eq hx0, castV_eq hx1, castV_eq hx2]
      exact h _ _ _ h1
    · cases hr
  · cases hr
def fn4 (a0 a1 a2 a3 t0 : E.Ty) (ok : E.Den a0 → E.Den a1 → E.Den a2 → E.Den a3 → Bool) (F0 : E.Den a0 → E.Den a1 → E.Den a2 → E.Den a3 → E.Den t0) : FnW E
  | [x0, x1, x2, x3] => match castV a0 x0, castV a1 x1, castV a2 x2, castV a3 x3 with
    | some x0, some x1, some x2, some x3 => some (ok x0 x1 x2 x3, [⟨t0, F0 x0 x1 x2 x3⟩])
    | _, _, _, _ => none
  | _ => none
theorem fn4_ok {a0 a1 a2 a3 t0 : E.Ty} {ok : E.Den a0 → E.Den a1 → E.Den a2 → E.Den a3 → Bool} {F0 : E.Den a0 → E.Den a1 → E.Den a2 → E.Den a3 → E.Den t0} (hO : OracleOk E O) (hmix : P.follows .mixedOrders = true) (hf : P.funcs[f]? = some fn) (hn : (fn.name == "runtime.NumGoroutine") = false) (hb : fn.body.isNone = false)
    (h : ∀ x0 x1 x2 x3, ok x0 x1 x2 x3 = true → runE O masks (Gr E fn [⟨t0, F0 x0 x1 x2 x3⟩]) fn [⟨a0, x0⟩, ⟨a1, x1⟩, ⟨a2, x2⟩, ⟨a3, x3⟩] = some [⟨t0, F0 x0 x1 x2 x3⟩]) : FnOk E f (fn4 a0 a1 a2 a3 t0 ok F0) := by
  refine fnOk_of (masks := masks) hO hmix hf hn hb fun args res hr => ?_
  unfold fn4 at hr
  split at hr
  · split at hr
    · rename_i hx0 hx1 hx2 hx3
      injection hr with hr
      injection hr with h1 h2
      subst h2
      rw [castV_eq hx0, castV_eq hx1, castV_eq hx2, castV_eq hx3]
      exact h _ _ _ _ h1
    · cases hr
  · cases hr
def fn42 (a0 a1 a2 a3 t0 t1 : E.Ty) (ok : E.Den a0 → E.Den a1 → E.Den a2 → E.Den a3 → Bool) (F0 : E.Den a0 → E.Den a1 → E.Den a2 → E.Den a3 → E.Den t0) (F1 : E.Den a0 → E.Den a1 → E.Den a2 → E.Den a3 → E.Den t1) : FnW E
  | [x0, x1, x2, x3] => match castV a0 x0, castV a1 x1, castV a2 x2, castV a3 x3 with
    | some x0, some x1, some x2, some x3 => some (ok x0 x1 x2 x3, [⟨t0, F0 x0 x1 x2 x3⟩, ⟨t1, F1 x0 x1 x2 x3⟩])
    | _, _, _, _ => none
  | _ => none
theorem fn42_ok {a0 a1 a2 a3 t0 t1 : E.Ty} {ok : E.Den a0 → E.Den a1 → E.Den a2 → E.Den a3 → Bool} {F0 : E.Den a0 → E.Den a1 → E.Den a2 → E.Den a3 → E.Den t0} {F1 : E.Den a0 → E.Den a1 → E.Den a2 → E.Den a3 → E.Den t1} (hO : OracleOk E O) (hmix : P.follows .mixedOrders = true) (hf : P.funcs[f]? = some fn) (hn : (fn.name == "runtime.NumGoroutine") = false) (hb : fn.body.isNone = false)
    (h : ∀ x0 x1 x2 x3, ok x0 x1 x2 x3 = true → runE O masks (Gr E fn [⟨t0, F0 x0 x1 x2 x3⟩, ⟨t1, F1 x0 x1 x2 x3⟩]) fn [⟨a0, x0⟩, ⟨a1, x1⟩, ⟨a2, x2⟩, ⟨a3, x3⟩] = some [⟨t0, F0 x0 x1 x2 x3⟩, ⟨t1, F1 x0 x1 x2 x3⟩]) : FnOk E f (fn42 a0 a1 a2 a3 t0 t1 ok F0 F1) := by
  refine fnOk_of (masks := masks) hO hmix hf hn hb fun args res hr => ?_
  unfold fn42 at hr
  split at hr
  · split at hr
    · rename_i hx0 hx1 hx2 hx3
      injection hr with hr
      injection hr with h1 h2
      subst h2
      rw [castV_eq hx0, castV_eq hx1, castV_eq hx2, castV_eq hx3]
      exact h _ _ _ _ h1
    · cases hr
  · cases hr
def fn43 (a0 a1 a2 a3 t0 t1 t2 : E.Ty) (ok : E.Den a0 → E.Den a1 → E.Den a2 → E.Den a3 → Bool) (F0 : E.Den a0 → E.Den a1 → E.Den a2 → E.Den a3 → E.Den t0) (F1 : E.Den a0 → E.Den a1 → E.Den a2 → E.Den a3 → E.Den t1) (F2 : E.Den a0 → E.Den a1 → E.Den a2 → E.Den a3 → E.Den t2) : FnW E
  | [x0, x1, x2, x3] => match castV a0 x0, castV a1 x1, castV a2 x2, castV a3 x3 with
    | some x0, some x1, some x2, some x3 => some (ok x0 x1 x2 x3, [⟨t0, F0 x0 x1 x2 x3⟩, ⟨t1, F1 x0 x1 x2 x3⟩, ⟨t2, F2 x0 x1 x2 x3⟩])
    | _, _, _, _ => none
  | _ => none
theorem fn43_ok {a0 a1 a2 a3 t0 t1 t2 : E.Ty} {ok : E.Den a0 → E.Den a1 → E.Den a2 → E.Den a3 → Bool} {F0 : E.Den a0 → E.Den a1 → E.Den a2 → E.Den a3 → E.Den t0} {F1 : E.Den a0 → E.Den a1 → E.Den a2 → E.Den a3 → E.Den t1} {F2 : E.Den a0 → E.Den a1 → E.Den a2 → E.Den a3 → E.Den t2} (hO : OracleOk E O) (hmix : P.follows .mixedOrders = true) (hf : P.funcs[f]? = some fn) (hn : (fn.name == "runtime.NumGoroutine") = false) (hb : fn.body.isNone = false)
    (h : ∀ x0 x1 x2 x3, ok x0 x1 x2 x3 = true → runE O masks (Gr E fn [⟨t0, F0 x0 x1 x2 x3⟩, ⟨t1, F1 x0 x1 x2 x3⟩, ⟨t2, F2 x0 x1 x2 x3⟩]) fn [⟨a0, x0⟩, ⟨a1, x1⟩, ⟨a2, x2⟩, ⟨a3, x3⟩] = some [⟨t0, F0 x0 x1 x2 x3⟩, ⟨t1, F1 x0 x1 x2 x3⟩, ⟨t2, F2 x0 x1 x2 x3⟩]) : FnOk E f (fn43 a0 a1 a2 a3 t0 t1 t2 ok F0 F1 F2) := by
  refine fnOk_of (masks := masks) hO hmix hf hn hb fun args res hr => ?_
  unfold fn43 at hr
  split at hr
  · split at hr
    · rename_i hx0 hx1 hx2 hx3
      injection hr with hr
      injection hr with h1 h2
      subst h2
      rw [castV_eq hx0, castV_eq hx1, castV_eq hx2, castV_eq hx3]
      exact h _ _ _ _ h1
    · cases hr
  · cases hr
def fn44 (a0 a1 a2 a3 t0 t1 t2 t3 : E.Ty) (ok : E.Den a0 → E.Den a1 → E.Den a2 → E.Den a3 → Bool) (F0 : E.Den a0 → E.Den a1 → E.Den a2 → E.Den a3 → E.Den t0) (F1 : E.Den a0 → E.Den a1 → E.Den a2 → E.Den a3 → E.Den t1) (F2 : E.Den a0 → E.Den a1 → E.Den a2 → E.Den a3 → E.Den t2) (F3 : E.Den a0 → E.Den a1 → E.Den a2 → E.Den a3 → E.Den t3) : FnW E
  | [x0, x1, x2, x3] => match castV a0 x0, castV a1 x1, castV a2 x2, castV a3 x3 with
    | some x0, some x1, some x2, some x3 => some (ok x0 x1 x2 x3, [⟨t0, F0 x0 x1 x2 x3⟩, ⟨t1, F1 x0 x1 x2 x3⟩, ⟨t2, F2 x0 x1 x2 x3⟩, ⟨t3, F3 x0 x1 x2 x3⟩])
    | _, _, _, _ => none
  | _ => none
theorem fn44_ok {a0 a1 a2 a3 t0 t1 t2 t3 : E.Ty} {ok : E.Den a0 → E.Den a1 → E.Den a2 → E.Den a3 → Bool} {F0 : E.Den a0 → E.Den a1 → E.Den a2 → E.Den a3 → E.Den t0} {F1 : E.Den a0 → E.Den a1 → E.Den a2 → E.Den a3 → E.Den t1} {F2 : E.Den a0 → E.Den a1 → E.Den a2 → E.Den a3 → E.Den t2} {F3 : E.Den a0 → E.Den a1 → E.Den a2 → E.Den a3 → E.Den t3} (hO : OracleOk E O) (hmix : P.follows .mixedOrders = true) (hf : P.funcs[f]? = some fn) (hn : (fn.name == "runtime.NumGoroutine") = false) (hb : fn.body.isNone = false)
    (h : ∀ x0 x1 x2 x3, ok x0 x1 x2 x3 = true → runE O masks (Gr E fn [⟨t0, F0 x0 x1 x2 x3⟩, ⟨t1, F1 x0 x1 x2 x3⟩, ⟨t2, F2 x0 x1 x2 x3⟩, ⟨t3, F3 x0 x1 x2 x3⟩]) fn [⟨a0, x0⟩, ⟨a1, x1⟩, ⟨a2, x2⟩, ⟨a3, x3⟩] = some [⟨t0, F0 x0 x1 x2 x3⟩, ⟨t1, F1 x0 x1 x2 x3⟩, ⟨t2, F2 x0 x1 x2 x3⟩, ⟨t3, F3 x0 x1 x2 x3⟩]) : FnOk E f (fn44 a0 a1 a2 a3 t0 t1 t2 t3 ok F0 F1 F2 F3) := by
  refine fnOk_of (masks := masks) hO hmix hf hn hb fun args res hr => ?_
  unfold fn44 at hr
  split at hr
  · split at hr
    · rename_i hx0 hx1 hx2 hx3
      injection hr with hr
      injection hr with h1 h2
      subst h2
      rw [castV_eq hx0, castV_eq hx1, castV_eq hx2, castV_eq hx3]
      exact h _ _ _ _ h1
    · cases hr
  · cases hr
end
end Go.Proofs.YtfoflgciceckoaaGreatDoor.Mir
