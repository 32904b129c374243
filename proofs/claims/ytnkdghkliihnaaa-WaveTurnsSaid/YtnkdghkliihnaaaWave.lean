/- The wave laws: what each function of the program and of the reference computes, by the Mirror. -/
import Derived.Test.YtnkdghkliihnaaaMirR
import Derived.Test.YtnkdghkliihnaaaRows
namespace Go.Proofs.Ytnkdghkliihnaaa.Wv
open Go Go.RowKit Go.Proofs.Ytnkdghkliihnaaa.Mir
structure Arr25 where
  e0 : Int × Int
  e1 : Int × Int
  e2 : Int × Int
  e3 : Int × Int
structure Point where
  re : Int
  im : Int
inductive Ty where
  | bool | l_bool | complex | a4_complex | int | ref29_Point | float
  deriving DecidableEq
abbrev Den : Ty → Type
  | .bool => Bool
  | .l_bool => List Bool
  | .complex => Int × Int
  | .a4_complex => Arr25
  | .int => Int
  | .ref29_Point => Point
  | .float => Int
def tid : Ty → TypeId
  | .bool => 4
  | .l_bool => 22
  | .complex => 24
  | .a4_complex => 25
  | .int => 3
  | .ref29_Point => 29
  | .float => 35
def code : TypeId → Option Ty
  | 4 => some .bool
  | 22 => some .l_bool
  | 24 => some .complex
  | 25 => some .a4_complex
  | 3 => some .int
  | 29 => some .ref29_Point
  | 35 => some .float
  | _ => none
def agg : Ty → Bool
  | .bool => false
  | .l_bool => false
  | .complex => false
  | .a4_complex => true
  | .int => false
  | .ref29_Point => true
  | .float => false
def size : Ty → Nat
  | .bool => 1
  | .l_bool => 1
  | .complex => 1
  | .a4_complex => 4
  | .int => 1
  | .ref29_Point => 2
  | .float => 1
def bytes : Ty → Nat
  | .bool => 1
  | .l_bool => 24
  | .complex => 16
  | .a4_complex => 64
  | .int => 8
  | .ref29_Point => 16
  | .float => 8
def cells : (t : Ty) → Den t → List (DVal Den)
  | .bool, x => [.bool x]
  | .l_bool, x => [.slice .bool x]
  | .complex, x => [.cpx x.1 x.2]
  | .a4_complex, x => [.cpx x.e0.1 x.e0.2, .cpx x.e1.1 x.e1.2, .cpx x.e2.1 x.e2.2, .cpx x.e3.1 x.e3.2]
  | .int, x => [.int .i64 x]
  | .ref29_Point, x => [.int .i64 x.re, .int .i64 x.im]
  | .float, x => [.flt x]
def dec : DecidableEq Ty := inferInstance
def fold : (t : Ty) → List (DVal Den) → Option (Den t)
  | .bool, [c] => dBl c
  | .l_bool, [c] => dSl dec .bool c
  | .complex, [c] => dCpx c
  | .a4_complex, [c0, c1, c2, c3] => match dCpx c0, dCpx c1, dCpx c2, dCpx c3 with | some y0, some y1, some y2, some y3 => some (⟨y0, y1, y2, y3⟩ : Arr25) | _, _, _, _ => none
  | .int, [c] => dInt .i64 c
  | .ref29_Point, [c0, c1] => match dInt .i64 c0, dInt .i64 c1 with | some y0, some y1 => some (⟨y0, y1⟩ : Point) | _, _ => none
  | .float, [c] => dFlt c
  | _, _ => none
def dflt : (t : Ty) → Den t
  | .bool => false
  | .l_bool => []
  | .complex => ((0, 0) : Int × Int)
  | .a4_complex => ⟨((0, 0) : Int × Int), ((0, 0) : Int × Int), ((0, 0) : Int × Int), ((0, 0) : Int × Int)⟩
  | .int => (0 : Int)
  | .ref29_Point => ⟨(0 : Int), (0 : Int)⟩
  | .float => (0 : Int)
theorem fold_ok : ∀ t cs x, fold t cs = some x → CsLe cs (cells t x) := by
  intro t cs x h
  cases t
  case bool => match cs, h with | [c], h => exact ⟨dBl_le h, trivial⟩
  case l_bool => match cs, h with | [c], h => exact ⟨dSl_le h, trivial⟩
  case complex => match cs, h with | [c], h => exact ⟨dCpx_le h, trivial⟩
  case a4_complex =>
    match cs, h with
    | [c0, c1, c2, c3], h =>
      simp only [fold] at h
      split at h
      · rename_i h0 h1 h2 h3; cases h; exact ⟨dCpx_le h0, dCpx_le h1, dCpx_le h2, dCpx_le h3, trivial⟩
      · cases h
  case int => match cs, h with | [c], h => exact ⟨dInt_le h, trivial⟩
  case ref29_Point =>
    match cs, h with
    | [c0, c1], h =>
      simp only [fold] at h
      split at h
      · rename_i h0 h1; cases h; exact ⟨dInt_le h0, dInt_le h1, trivial⟩
      · cases h
  case float => match cs, h with | [c], h => exact ⟨dFlt_le h, trivial⟩
theorem code_ok : ∀ i t, code i = some t → i = tid t := by
  intro i t h
  unfold code at h
  split at h <;> first | (cases h; rfl) | cases h
theorem info_ok : ∀ t, ∃ i z, Try.prog.info? (tid t) = some i ∧ i.size = size t ∧ i.bytes = bytes t ∧ i.zero = some z ∧ z.cells.size = size t := by
  intro t
  refine info_of ?_ rfl
  cases t <;> kernel_rfl
theorem agg_ok : ∀ t, isAggT Try.prog (tid t) = agg t := by intro t; cases t <;> kernel_rfl
theorem und_ok : ∀ t, (Try.prog.underlying (tid t)).isSome = true := by intro t; cases t <;> kernel_rfl
abbrev E : Env Try.prog where
  Ty := Ty
  dec := dec
  Den := Den
  tid := tid
  code := code
  agg := agg
  size := size
  bytes := bytes
  cells := cells
  fold := fold
  code_ok := code_ok
  info_ok := info_ok
  agg_ok := agg_ok
  und_ok := und_ok
  size_pos := by intro t; cases t <;> decide
  bytes_pos := by intro t; cases t <;> decide
  one := by intro t h; cases t <;> first | rfl | cases h
  cells_len := by intro t x; cases t <;> rfl
  dflt := dflt
  fold_ok := fold_ok
theorem mix : Try.prog.follows .mixedOrders = true := by kernel_rfl
def w64 (n : Int) : Int := IntKind.wrap .i64 n
theorem w64_id {n : Int} (h : -9223372036854775808 ≤ n) (h' : n ≤ 9223372036854775807) : w64 n = n := by
  unfold w64
  rw [IntKind.wrap_i64]
  omega
theorem and3 (n : Int) : bits .and .i64 n 3 = n % 4 := by
  have h3 : (BitVec.ofInt 64 3).toNat = 2 ^ 2 - 1 := by decide
  have key : (BitVec.ofInt 64 n &&& BitVec.ofInt 64 3).toNat = (n % ((2 ^ 64 : Nat) : Int)).toNat % 2 ^ 2 := by
    rw [BitVec.toNat_and, BitVec.toNat_ofInt, h3, Nat.and_two_pow_sub_one_eq_mod]
  show IntKind.i64.wrap ((BitVec.ofInt 64 n &&& BitVec.ofInt 64 3).toNat : Nat) = n % 4
  rw [key, IntKind.wrap_i64]
  omega
theorem sq_bd (x : Int) (h1 : -1048576 ≤ x) (h2 : x ≤ 1048576) : 0 ≤ x * x ∧ x * x ≤ 1099511627776 := by
  have e : x * x = ((x.natAbs * x.natAbs : Nat) : Int) := by rw [Int.natAbs_mul_self]
  have : x.natAbs * x.natAbs ≤ 1048576 * 1048576 := Nat.mul_le_mul (by omega) (by omega)
  omega
theorem tmod4 (n : Int) : (n.tmod 4 = 0 ∧ n % 4 = 0) ∨ (n.tmod 4 = 1 ∧ n % 4 = 1) ∨ (n.tmod 4 = 2 ∧ n % 4 = 2) ∨ (n.tmod 4 = 3 ∧ n % 4 = 3) ∨ (n.tmod 4 = -1 ∧ n % 4 = 3) ∨ (n.tmod 4 = -2 ∧ n % 4 = 2) ∨ (n.tmod 4 = -3 ∧ n % 4 = 1) := by
  rcases Int.le_total 0 n with h | h
  · have := Int.tmod_eq_emod_of_nonneg (b := 4) h
    omega
  · have e : n.tmod 4 = -((-n) % 4) := by
      rw [← Int.tmod_eq_emod_of_nonneg (by omega), Int.neg_tmod, Int.neg_neg]
    omega
theorem m4 (n : Int) : n % 4 = 0 ∨ n % 4 = 1 ∨ n % 4 = 2 ∨ n % 4 = 3 := by omega

/-! ### Numbers -/
abbrev C := Int × Int
def q4 (n : Int) : C := if n % 4 = 0 then (1, 0) else if n % 4 = 1 then (0, 1) else if n % 4 = 2 then (-1, 0) else (0, -1)
def addC (x y : C) : C := (x.1 + y.1, x.2 + y.2)
def turnZ (z : C) (n : Int) : C := if n % 4 = 1 then (-z.2, z.1) else if n % 4 = 2 then (-z.1, -z.2) else if n % 4 = 3 then (z.2, -z.1) else z
def okC (z : C) : Bool := fltOk z.1 && fltOk z.2
def inR (x : Int) : Bool := decide (-1048576 ≤ x) && decide (x ≤ 1048576)
def inC (z : C) : Bool := inR z.1 && inR z.2
theorem fltOk_of {n : Int} (h : -9007199254740992 < n) (h' : n < 9007199254740992) : fltOk n = true := by
  simp only [fltOk, decide_eq_true_eq]; omega
theorem sumOk_of {n : Int} (h : -4503599627370496 < n) (h' : n < 4503599627370496) : sumOk n = true := by
  simp only [sumOk, decide_eq_true_eq]; omega
theorem inR_iff {x : Int} : inR x = true ↔ -1048576 ≤ x ∧ x ≤ 1048576 := by simp [inR]
theorem inC_iff {z : C} : inC z = true ↔ (-1048576 ≤ z.1 ∧ z.1 ≤ 1048576) ∧ -1048576 ≤ z.2 ∧ z.2 ≤ 1048576 := by simp [inC, inR_iff]
theorem q4_bd (n : Int) : (-1 ≤ (q4 n).1 ∧ (q4 n).1 ≤ 1) ∧ -1 ≤ (q4 n).2 ∧ (q4 n).2 ≤ 1 := by
  unfold q4
  split <;> (try split) <;> (try split) <;> decide

noncomputable def wunit_W : FnW E := fn1 (E := E) .int .complex (fun _ => true) q4
def wunit_id : FuncId := 34
noncomputable def wunit_O : Oracle E := orac [] []
noncomputable def wunit_H : Hint E := Hint.mk [] [] []
noncomputable def wunit_t (_G : Nat → ASt E → Option (List (TV E))) (x0 : Int) : Option (List (TV E)) :=
  bif (decide ((0 : Int) ≤ (bits .and .i64 x0 (3 : Int))) && decide ((bits .and .i64 x0 (3 : Int)) < (4 : Int))) then some [⟨.complex, (List.getD ([(((1 : Int), (0 : Int)) : Int × Int), (((0 : Int), (1 : Int)) : Int × Int), (((-1 : Int), (0 : Int)) : Int × Int), (((0 : Int), (-1 : Int)) : Int × Int)] : List (Int × Int)) (Int.toNat (bits .and .i64 x0 (3 : Int))) (dflt .complex))⟩] else none
theorem wunit_e (G : Nat → ASt E → Option (List (TV E))) (x0 : Int) : runE wunit_O wunit_H G Try.f34 [⟨.int, x0⟩] = wunit_t G x0 := by kernel_rfl
theorem wunit_f : Try.prog.funcs[34]? = some Try.f34 := by kernel_rfl
theorem wunit_n : (Try.f34.name == "runtime.NumGoroutine") = false := by kernel_rfl
theorem wunit_b : Try.f34.body.isNone = false := by kernel_rfl
theorem wunit_hO : OracleOk E wunit_O := orac_ok .nil .nil
theorem wunit_ok_of (h : ∀ (x0 : Int), wunit_t (Gr E Try.f34 [⟨.complex, q4 x0⟩]) x0 = some [⟨.complex, q4 x0⟩]) : FnOk E wunit_id wunit_W := fn1_ok wunit_hO mix wunit_f wunit_n wunit_b (fun x0 _ => (wunit_e _ x0).trans (h x0))
theorem wunit_ok : FnOk E wunit_id wunit_W := wunit_ok_of fun x => by
  simp only [wunit_t, and3]
  rcases m4 x with h | h | h | h <;> simp [q4, h]
noncomputable def wturn_W : FnW E := fn2 (E := E) .complex .int .complex (fun z _ => okC z) turnZ
def wturn_id : FuncId := 19
noncomputable def wturn_O : Oracle E := orac [] []
noncomputable def wturn_H : Hint E := Hint.mk [] [] []
noncomputable def wturn_t (_G : Nat → ASt E → Option (List (TV E))) (x0 : Int × Int) (x1 : Int) : Option (List (TV E)) :=
  bif ((bits .and .i64 x1 (3 : Int)) == (1 : Int)) then (bif (fltOk x0.2) then some [⟨.complex, (((-x0.2), x0.1) : Int × Int)⟩] else none) else (bif ((bits .and .i64 x1 (3 : Int)) == (2 : Int)) then (bif (fltOk x0.1) then (bif (fltOk x0.2) then some [⟨.complex, (((-x0.1), (-x0.2)) : Int × Int)⟩] else none) else none) else (bif ((bits .and .i64 x1 (3 : Int)) == (3 : Int)) then (bif (fltOk x0.1) then some [⟨.complex, ((x0.2, (-x0.1)) : Int × Int)⟩] else none) else some [⟨.complex, x0⟩]))
theorem wturn_e (G : Nat → ASt E → Option (List (TV E))) (x0 : Int × Int) (x1 : Int) : runE wturn_O wturn_H G Try.f19 [⟨.complex, x0⟩, ⟨.int, x1⟩] = wturn_t G x0 x1 := by kernel_rfl
theorem wturn_f : Try.prog.funcs[19]? = some Try.f19 := by kernel_rfl
theorem wturn_n : (Try.f19.name == "runtime.NumGoroutine") = false := by kernel_rfl
theorem wturn_b : Try.f19.body.isNone = false := by kernel_rfl
theorem wturn_hO : OracleOk E wturn_O := orac_ok .nil .nil
theorem wturn_ok_of (h : ∀ (x0 : Int × Int) (x1 : Int), (fun z _ => okC z) x0 x1 = true → wturn_t (Gr E Try.f19 [⟨.complex, turnZ x0 x1⟩]) x0 x1 = some [⟨.complex, turnZ x0 x1⟩]) : FnOk E wturn_id wturn_W := fn2_ok wturn_hO mix wturn_f wturn_n wturn_b (fun x0 x1 hk => (wturn_e _ x0 x1).trans (h x0 x1 hk))
theorem wturn_ok : FnOk E wturn_id wturn_W := wturn_ok_of fun z n hk => by
  simp only [okC, Bool.and_eq_true] at hk
  obtain ⟨h1, h2⟩ := hk
  simp only [wturn_t, and3, h1, h2, cond_true, turnZ]
  rcases m4 n with h | h | h | h <;> simp [h]
def partV (x : Int) : Int := if inR x then x else 0
noncomputable def wpart_W : FnW E := fn12 (E := E) .float .int .bool fltOk partV inR
def wpart_id : FuncId := 37
noncomputable def wpart_O : Oracle E := orac [] []
noncomputable def wpart_H : Hint E := Hint.mk [] [] []
noncomputable def wpart_t (_G : Nat → ASt E → Option (List (TV E))) (x0 : Int) : Option (List (TV E)) :=
  bif (fltOk x0 && fltOk (-1048576 : Int)) then (bif ((fltOk x0 && fltOk (1048576 : Int)) || !(decide ((-1048576 : Int) ≤ x0))) then (bif (!(bif (decide ((-1048576 : Int) ≤ x0)) then (decide (x0 ≤ (1048576 : Int))) else false)) then some [⟨.int, (0 : Int)⟩, ⟨.bool, false⟩] else (bif (fltOk x0) then (bif (fltOk x0 && fltOk x0) then some [⟨.int, x0⟩, ⟨.bool, (x0 == x0)⟩] else none) else none)) else none) else none
theorem wpart_e (G : Nat → ASt E → Option (List (TV E))) (x0 : Int) : runE wpart_O wpart_H G Try.f37 [⟨.float, x0⟩] = wpart_t G x0 := by kernel_rfl
theorem wpart_f : Try.prog.funcs[37]? = some Try.f37 := by kernel_rfl
theorem wpart_n : (Try.f37.name == "runtime.NumGoroutine") = false := by kernel_rfl
theorem wpart_b : Try.f37.body.isNone = false := by kernel_rfl
theorem wpart_hO : OracleOk E wpart_O := orac_ok .nil .nil
theorem wpart_ok_of (h : ∀ (x0 : Int), fltOk x0 = true → wpart_t (Gr E Try.f37 [⟨.int, partV x0⟩, ⟨.bool, inR x0⟩]) x0 = some [⟨.int, partV x0⟩, ⟨.bool, inR x0⟩]) : FnOk E wpart_id wpart_W := fn12_ok wpart_hO mix wpart_f wpart_n wpart_b (fun x0 hk => (wpart_e _ x0).trans (h x0 hk))
theorem wpart_ok : FnOk E wpart_id wpart_W := wpart_ok_of fun x hk => by
  have e1 : fltOk (-1048576) = true := by decide
  have e2 : fltOk 1048576 = true := by decide
  simp only [wpart_t, hk, e1, e2, Bool.and_true, Bool.true_or, cond_true, partV, inR, beq_self_eq_true]
  by_cases h1 : -1048576 ≤ x <;> by_cases h2 : x ≤ 1048576 <;> simp [h1, h2]
def powerV (z : C) : Int := if inC z then z.1 * z.1 + z.2 * z.2 else -1
noncomputable def wpower_W : FnW E := fn1 (E := E) .complex .int okC powerV
def wpower_id : FuncId := 14
noncomputable def wpower_O : Oracle E := orac [(37, wpart_W)] []
noncomputable def wpower_H : Hint E := Hint.mk [] [] []
noncomputable def wpower_t (_G : Nat → ASt E → Option (List (TV E))) (x0 : Int × Int) : Option (List (TV E)) :=
  bif (fltOk x0.1) then (bif (fltOk x0.2) then (bif (bif (!(inR x0.1)) then true else (!(inR x0.2))) then some [⟨.int, (-1 : Int)⟩] else some [⟨.int, (w64 ((w64 ((partV x0.1) * (partV x0.1))) + (w64 ((partV x0.2) * (partV x0.2)))))⟩]) else none) else none
theorem wpower_e (G : Nat → ASt E → Option (List (TV E))) (x0 : Int × Int) : runE wpower_O wpower_H G Try.f14 [⟨.complex, x0⟩] = wpower_t G x0 := by kernel_rfl
theorem wpower_f : Try.prog.funcs[14]? = some Try.f14 := by kernel_rfl
theorem wpower_n : (Try.f14.name == "runtime.NumGoroutine") = false := by kernel_rfl
theorem wpower_b : Try.f14.body.isNone = false := by kernel_rfl
theorem wpower_hO : OracleOk E wpower_O := orac_ok (.cons wpart_ok .nil) .nil
theorem wpower_ok_of (h : ∀ (x0 : Int × Int), okC x0 = true → wpower_t (Gr E Try.f14 [⟨.int, powerV x0⟩]) x0 = some [⟨.int, powerV x0⟩]) : FnOk E wpower_id wpower_W := fn1_ok wpower_hO mix wpower_f wpower_n wpower_b (fun x0 hk => (wpower_e _ x0).trans (h x0 hk))
theorem wpower_ok : FnOk E wpower_id wpower_W := wpower_ok_of fun z hk => by
  simp only [okC, Bool.and_eq_true] at hk
  obtain ⟨h1, h2⟩ := hk
  simp only [wpower_t, h1, h2, cond_true, powerV, inC, partV]
  by_cases i1 : inR z.1 = true
  · by_cases i2 : inR z.2 = true
    · rw [inR_iff] at i1 i2
      have b1 := sq_bd z.1 i1.1 i1.2
      have b2 := sq_bd z.2 i2.1 i2.2
      simp only [inR_iff.2 i1, inR_iff.2 i2, if_pos, Bool.not_true, cond_false, Bool.and_self]
      rw [w64_id (n := z.1 * z.1) (by omega) (by omega), w64_id (n := z.2 * z.2) (by omega) (by omega), w64_id (by omega) (by omega)]
    · simp [i1, i2]
  · simp [i1]

/-! ### Histories -/
def last (h : List Bool) : List Bool := h.drop (h.length - 256)
theorem last_len (h : List Bool) : (last h).length ≤ 256 := by simp [last]; omega
theorem last_id {h : List Bool} (hl : h.length ≤ 256) : last h = h := by simp [last, Nat.sub_eq_zero_of_le hl]
def small (h : List Bool) : Bool := decide (h.length ≤ 1000000)
noncomputable def wlast_W : FnW E := fn1 (E := E) .l_bool .l_bool small last
def wlast_id : FuncId := 33
noncomputable def wlast_O : Oracle E := orac [] []
noncomputable def wlast_H : Hint E := Hint.mk [] [] []
noncomputable def wlast_t (_G : Nat → ASt E → Option (List (TV E))) (x0 : List Bool) : Option (List (TV E)) :=
  bif (decide ((0 : Int) ≤ (bif decide ((w64 ((x0.length : Int) - (256 : Int))) < (0 : Int)) then (0 : Int) else (w64 ((x0.length : Int) - (256 : Int))))) && decide ((bif decide ((w64 ((x0.length : Int) - (256 : Int))) < (0 : Int)) then (0 : Int) else (w64 ((x0.length : Int) - (256 : Int)))) ≤ (x0.length : Int)) && decide ((x0.length : Int) ≤ (x0.length : Int))) then some [⟨.l_bool, (List.take (Int.toNat (x0.length : Int) - Int.toNat (bif decide ((w64 ((x0.length : Int) - (256 : Int))) < (0 : Int)) then (0 : Int) else (w64 ((x0.length : Int) - (256 : Int))))) (List.drop (Int.toNat (bif decide ((w64 ((x0.length : Int) - (256 : Int))) < (0 : Int)) then (0 : Int) else (w64 ((x0.length : Int) - (256 : Int))))) x0))⟩] else none
theorem wlast_e (G : Nat → ASt E → Option (List (TV E))) (x0 : List Bool) : runE wlast_O wlast_H G Try.f33 [⟨.l_bool, x0⟩] = wlast_t G x0 := by kernel_rfl
theorem wlast_f : Try.prog.funcs[33]? = some Try.f33 := by kernel_rfl
theorem wlast_n : (Try.f33.name == "runtime.NumGoroutine") = false := by kernel_rfl
theorem wlast_b : Try.f33.body.isNone = false := by kernel_rfl
theorem wlast_hO : OracleOk E wlast_O := orac_ok .nil .nil
theorem wlast_ok_of (h : ∀ (x0 : List Bool), small x0 = true → wlast_t (Gr E Try.f33 [⟨.l_bool, last x0⟩]) x0 = some [⟨.l_bool, last x0⟩]) : FnOk E wlast_id wlast_W := fn1_ok wlast_hO mix wlast_f wlast_n wlast_b (fun x0 hk => (wlast_e _ x0).trans (h x0 hk))
theorem take_all {h : List Bool} {k : Nat} (_ : k ≤ h.length) : List.take (h.length - k) (List.drop k h) = List.drop k h := List.take_of_length_le (by simp)
theorem wlast_ok : FnOk E wlast_id wlast_W := wlast_ok_of fun h hk => by
  simp only [small, decide_eq_true_eq] at hk
  have e : (bif decide (w64 ((h.length : Int) - 256) < 0) then 0 else w64 ((h.length : Int) - 256)) = ((h.length - 256 : Nat) : Int) := by
    rw [w64_id (by omega) (by omega)]
    by_cases hc : (h.length : Int) - 256 < 0 <;> simp only [hc, decide_true, decide_false, cond_true, cond_false] <;> omega
  simp only [wlast_t, e, Int.toNat_natCast, last, take_all (Nat.sub_le h.length 256)]
  rw [show (decide ((0 : Int) ≤ ((h.length - 256 : Nat) : Int)) && decide (((h.length - 256 : Nat) : Int) ≤ (h.length : Int)) && decide ((h.length : Int) ≤ (h.length : Int))) = true from by simp only [Bool.and_eq_true, decide_eq_true_eq]; omega, cond_true]
noncomputable def rlast_W : FnW E := fn1 (E := E) .l_bool .l_bool small last
def rlast_id : FuncId := 35
noncomputable def rlast_O : Oracle E := orac [] []
noncomputable def rlast_H : Hint E := Hint.mk [] [] []
noncomputable def rlast_t (_G : Nat → ASt E → Option (List (TV E))) (x0 : List Bool) : Option (List (TV E)) :=
  bif (decide ((256 : Int) < (x0.length : Int))) then (bif (decide ((0 : Int) ≤ (w64 ((x0.length : Int) - (256 : Int)))) && decide ((w64 ((x0.length : Int) - (256 : Int))) ≤ (x0.length : Int)) && decide ((x0.length : Int) ≤ (x0.length : Int))) then some [⟨.l_bool, (List.take (Int.toNat (x0.length : Int) - Int.toNat (w64 ((x0.length : Int) - (256 : Int)))) (List.drop (Int.toNat (w64 ((x0.length : Int) - (256 : Int)))) x0))⟩] else none) else some [⟨.l_bool, x0⟩]
theorem rlast_e (G : Nat → ASt E → Option (List (TV E))) (x0 : List Bool) : runE rlast_O rlast_H G Try.f35 [⟨.l_bool, x0⟩] = rlast_t G x0 := by kernel_rfl
theorem rlast_f : Try.prog.funcs[35]? = some Try.f35 := by kernel_rfl
theorem rlast_n : (Try.f35.name == "runtime.NumGoroutine") = false := by kernel_rfl
theorem rlast_b : Try.f35.body.isNone = false := by kernel_rfl
theorem rlast_hO : OracleOk E rlast_O := orac_ok .nil .nil
theorem rlast_ok_of (h : ∀ (x0 : List Bool), small x0 = true → rlast_t (Gr E Try.f35 [⟨.l_bool, last x0⟩]) x0 = some [⟨.l_bool, last x0⟩]) : FnOk E rlast_id rlast_W := fn1_ok rlast_hO mix rlast_f rlast_n rlast_b (fun x0 hk => (rlast_e _ x0).trans (h x0 hk))
theorem rlast_ok : FnOk E rlast_id rlast_W := rlast_ok_of fun h hk => by
  simp only [small, decide_eq_true_eq] at hk
  simp only [rlast_t, w64_id (n := (h.length : Int) - 256) (by omega) (by omega)]
  by_cases hc : 256 < h.length
  · have e : (h.length : Int) - 256 = ((h.length - 256 : Nat) : Int) := by omega
    rw [e]
    simp only [Int.toNat_natCast, take_all (Nat.sub_le h.length 256)]
    rw [show decide ((256 : Int) < (h.length : Int)) = true from by simp only [decide_eq_true_eq]; omega, cond_true]
    rw [show (decide ((0 : Int) ≤ ((h.length - 256 : Nat) : Int)) && decide (((h.length - 256 : Nat) : Int) ≤ (h.length : Int)) && decide ((h.length : Int) ≤ (h.length : Int))) = true from by simp only [Bool.and_eq_true, decide_eq_true_eq]; omega, cond_true]
    rfl
  · rw [show decide ((256 : Int) < (h.length : Int)) = false from by simp only [decide_eq_false_iff_not]; omega, cond_false]
    rw [last_id (by omega)]

def binA (k : Int) : Nat → C → List Bool → C
  | _, a, [] => a
  | n, a, b :: t => binA k (n + 1) (if b then addC a (q4 (-(k * n))) else a) t
def bin (h : List Bool) (k : Int) : C := binA k 0 (0, 0) (last h)
def bins (h : List Bool) : Arr25 := ⟨bin h 0, bin h 1, bin h 2, bin h 3⟩
theorem negk (k : Int) (i : Nat) (h1 : 0 ≤ k) (h2 : k ≤ 3) (hi : i ≤ 256) : w64 (w64 (0 - k) * (i : Int)) = -(k * i) := by
  have : k = 0 ∨ k = 1 ∨ k = 2 ∨ k = 3 := by omega
  rcases this with rfl | rfl | rfl | rfl <;> rw [w64_id (n := 0 - _) (by decide) (by decide), w64_id (by omega) (by omega)] <;> omega
def bdC (z : C) (n : Int) : Prop := (-n ≤ z.1 ∧ z.1 ≤ n) ∧ -n ≤ z.2 ∧ z.2 ≤ n
theorem bdC_add {z : C} {n m : Int} (h : bdC z n) : bdC (addC z (q4 m)) (n + 1) := by
  have := q4_bd m
  unfold bdC addC at *
  simp only
  omega
theorem bdC_sum {z : C} {n m : Int} (h : bdC z n) (hn : n ≤ 1000) : (sumOk z.1 && sumOk (q4 m).1 && (sumOk z.2 && sumOk (q4 m).2)) = true := by
  have := q4_bd m
  unfold bdC at h
  rw [sumOk_of (by omega) (by omega), sumOk_of (by omega) (by omega), sumOk_of (by omega) (by omega), sumOk_of (by omega) (by omega)]
  rfl
theorem binA_bd (k : Int) : ∀ (l : List Bool) (n : Nat) (a : C) (m : Int), bdC a m → bdC (binA k n a l) (m + l.length)
  | [], n, a, m, h => by simpa [binA] using h
  | b :: t, n, a, m, h => by
    have e : m + ((b :: t).length : Int) = m + 1 + t.length := by simp only [List.length_cons]; omega
    rw [e]
    refine binA_bd k t (n + 1) _ (m + 1) ?_
    cases b
    · unfold bdC at *; simp only [Bool.false_eq_true, if_false]; omega
    · exact bdC_add h
theorem bin_bd (h : List Bool) (k : Int) : bdC (bin h k) 256 := by
  have h1 := binA_bd k (last h) 0 (0, 0) 0 (by unfold bdC; decide)
  have h2 := last_len h
  unfold bdC at *
  unfold bin
  omega
noncomputable def wbins_W : FnW E := fn1 (E := E) .l_bool .a4_complex small bins
def wbins_id : FuncId := 11
noncomputable def wbins_O : Oracle E := orac [(33, wlast_W), (34, wunit_W)] []
noncomputable def wbins_H : Hint E := Hint.mk [(0, [2, 3, 8, 9, 10]), (1, [2, 3, 4, 8, 9, 10, 17])] [] []
noncomputable def wbins_C0 (v0 : List Bool) (v1 : Int) (v2 : Int) (v3 : Int) (v4 : Int) (v5 : Int) (v6 : Int) (v7 : Int) (v8 : Int) (v9 : Int) (v10 : Int) (v11 : Int) (v12 : Int) (v13 : Int) (v14 : Int) (v15 : Int) (v16 : Int) (v17 : Int) (v18 : Int) : ASt E := ASt.mk 33 [(2, .ptr 0 0), (3, .ptr 1 0), (8, .d (.slice .bool v0)), (9, .d (.int .i64 v1)), (10, .d (.int .i64 v2))] [(0, .box [.d (.cpx v3 v4), .d (.cpx v5 v6), .d (.cpx v7 v8), .d (.cpx v9 v10)]), (1, .box [.d (.cpx v11 v12), .d (.cpx v13 v14), .d (.cpx v15 v16), .d (.cpx v17 v18)])] 2
noncomputable def wbins_C1_0 (v0 : Int) (v1 : List Bool) (v2 : Int) (v3 : Int) (v4 : Int) (v5 : Int) (v6 : Int) (v7 : Int) (v8 : Int) (v9 : Int) (v10 : Int) (v11 : Int) (v12 : Int) (v13 : Int) (v14 : Int) (v15 : Int) (v16 : Int) (v17 : Int) (v18 : Int) (v19 : Int) : ASt E := ASt.mk 33 [(2, .ptr 0 0), (3, .ptr 1 0), (4, .d (.int .i64 v0)), (8, .d (.slice .bool v1)), (9, .d (.int .i64 v2)), (10, .d (.int .i64 v3)), (17, .d (.int .i64 (0 : Int)))] [(0, .box [.d (.cpx v4 v5), .d (.cpx v6 v7), .d (.cpx v8 v9), .d (.cpx v10 v11)]), (1, .box [.d (.cpx v12 v13), .d (.cpx v14 v15), .d (.cpx v16 v17), .d (.cpx v18 v19)])] 2
noncomputable def wbins_C1_1 (v0 : Int) (v1 : List Bool) (v2 : Int) (v3 : Int) (v4 : Int) (v5 : Int) (v6 : Int) (v7 : Int) (v8 : Int) (v9 : Int) (v10 : Int) (v11 : Int) (v12 : Int) (v13 : Int) (v14 : Int) (v15 : Int) (v16 : Int) (v17 : Int) (v18 : Int) (v19 : Int) : ASt E := ASt.mk 33 [(2, .ptr 0 0), (3, .ptr 1 0), (4, .d (.int .i64 v0)), (8, .d (.slice .bool v1)), (9, .d (.int .i64 v2)), (10, .d (.int .i64 v3)), (17, .d (.int .i64 (1 : Int)))] [(0, .box [.d (.cpx v4 v5), .d (.cpx v6 v7), .d (.cpx v8 v9), .d (.cpx v10 v11)]), (1, .box [.d (.cpx v12 v13), .d (.cpx v14 v15), .d (.cpx v16 v17), .d (.cpx v18 v19)])] 2
noncomputable def wbins_C1_2 (v0 : Int) (v1 : List Bool) (v2 : Int) (v3 : Int) (v4 : Int) (v5 : Int) (v6 : Int) (v7 : Int) (v8 : Int) (v9 : Int) (v10 : Int) (v11 : Int) (v12 : Int) (v13 : Int) (v14 : Int) (v15 : Int) (v16 : Int) (v17 : Int) (v18 : Int) (v19 : Int) : ASt E := ASt.mk 33 [(2, .ptr 0 0), (3, .ptr 1 0), (4, .d (.int .i64 v0)), (8, .d (.slice .bool v1)), (9, .d (.int .i64 v2)), (10, .d (.int .i64 v3)), (17, .d (.int .i64 (2 : Int)))] [(0, .box [.d (.cpx v4 v5), .d (.cpx v6 v7), .d (.cpx v8 v9), .d (.cpx v10 v11)]), (1, .box [.d (.cpx v12 v13), .d (.cpx v14 v15), .d (.cpx v16 v17), .d (.cpx v18 v19)])] 2
noncomputable def wbins_C1_3 (v0 : Int) (v1 : List Bool) (v2 : Int) (v3 : Int) (v4 : Int) (v5 : Int) (v6 : Int) (v7 : Int) (v8 : Int) (v9 : Int) (v10 : Int) (v11 : Int) (v12 : Int) (v13 : Int) (v14 : Int) (v15 : Int) (v16 : Int) (v17 : Int) (v18 : Int) (v19 : Int) : ASt E := ASt.mk 33 [(2, .ptr 0 0), (3, .ptr 1 0), (4, .d (.int .i64 v0)), (8, .d (.slice .bool v1)), (9, .d (.int .i64 v2)), (10, .d (.int .i64 v3)), (17, .d (.int .i64 (3 : Int)))] [(0, .box [.d (.cpx v4 v5), .d (.cpx v6 v7), .d (.cpx v8 v9), .d (.cpx v10 v11)]), (1, .box [.d (.cpx v12 v13), .d (.cpx v14 v15), .d (.cpx v16 v17), .d (.cpx v18 v19)])] 2
noncomputable def wbins_C1_4 (v0 : Int) (v1 : List Bool) (v2 : Int) (v3 : Int) (v4 : Int) (v5 : Int) (v6 : Int) (v7 : Int) (v8 : Int) (v9 : Int) (v10 : Int) (v11 : Int) (v12 : Int) (v13 : Int) (v14 : Int) (v15 : Int) (v16 : Int) (v17 : Int) (v18 : Int) (v19 : Int) : ASt E := ASt.mk 33 [(2, .ptr 0 0), (3, .ptr 1 0), (4, .d (.int .i64 v0)), (8, .d (.slice .bool v1)), (9, .d (.int .i64 v2)), (10, .d (.int .i64 v3)), (17, .d (.int .i64 (4 : Int)))] [(0, .box [.d (.cpx v4 v5), .d (.cpx v6 v7), .d (.cpx v8 v9), .d (.cpx v10 v11)]), (1, .box [.d (.cpx v12 v13), .d (.cpx v14 v15), .d (.cpx v16 v17), .d (.cpx v18 v19)])] 2
noncomputable def wbins_t (G : Nat → ASt E → Option (List (TV E))) (x0 : List Bool) : Option (List (TV E)) :=
  bif (small x0) then G 0 (wbins_C0 (last x0) ((last x0).length : Int) (0 : Int) (0 : Int) (0 : Int) (0 : Int) (0 : Int) (0 : Int) (0 : Int) (0 : Int) (0 : Int) (0 : Int) (0 : Int) (0 : Int) (0 : Int) (0 : Int) (0 : Int) (0 : Int) (0 : Int)) else none
theorem wbins_e (G : Nat → ASt E → Option (List (TV E))) (x0 : List Bool) : runE wbins_O wbins_H G Try.f11 [⟨.l_bool, x0⟩] = wbins_t G x0 := by kernel_rfl
noncomputable def wbins_t0 (G : Nat → ASt E → Option (List (TV E))) (v0 : List Bool) (v1 : Int) (v2 : Int) (v3 : Int) (v4 : Int) (v5 : Int) (v6 : Int) (v7 : Int) (v8 : Int) (v9 : Int) (v10 : Int) (v11 : Int) (v12 : Int) (v13 : Int) (v14 : Int) (v15 : Int) (v16 : Int) (v17 : Int) (v18 : Int) : Option (List (TV E)) :=
  bif (decide (v2 < v1)) then (bif (decide ((0 : Int) ≤ v2) && decide (v2 < (v0.length : Int))) then (bif (!(List.getD v0 (Int.toNat v2) (dflt .bool))) then G 0 (wbins_C0 v0 v1 (w64 (v2 + (1 : Int))) v3 v4 v5 v6 v7 v8 v9 v10 v11 v12 v13 v14 v15 v16 v17 v18) else G 1 (wbins_C1_0 v2 v0 v1 v2 v3 v4 v5 v6 v7 v8 v9 v10 v11 v12 v13 v14 v15 v16 v17 v18)) else none) else some [⟨.a4_complex, (⟨((v11, v12) : Int × Int), ((v13, v14) : Int × Int), ((v15, v16) : Int × Int), ((v17, v18) : Int × Int)⟩ : Arr25)⟩]
theorem wbins_l0 (G : Nat → ASt E → Option (List (TV E))) (v0 : List Bool) (v1 : Int) (v2 : Int) (v3 : Int) (v4 : Int) (v5 : Int) (v6 : Int) (v7 : Int) (v8 : Int) (v9 : Int) (v10 : Int) (v11 : Int) (v12 : Int) (v13 : Int) (v14 : Int) (v15 : Int) (v16 : Int) (v17 : Int) (v18 : Int) : runL wbins_O wbins_H G Try.f11 0 (wbins_C0 v0 v1 v2 v3 v4 v5 v6 v7 v8 v9 v10 v11 v12 v13 v14 v15 v16 v17 v18) = wbins_t0 G v0 v1 v2 v3 v4 v5 v6 v7 v8 v9 v10 v11 v12 v13 v14 v15 v16 v17 v18 := by kernel_rfl
noncomputable def wbins_t1_0 (G : Nat → ASt E → Option (List (TV E))) (v0 : Int) (v1 : List Bool) (v2 : Int) (v3 : Int) (v4 : Int) (v5 : Int) (v6 : Int) (v7 : Int) (v8 : Int) (v9 : Int) (v10 : Int) (v11 : Int) (v12 : Int) (v13 : Int) (v14 : Int) (v15 : Int) (v16 : Int) (v17 : Int) (v18 : Int) (v19 : Int) : Option (List (TV E)) :=
  bif (sumOk v12 && sumOk ((q4 (w64 ((w64 (0 - (0 : Int))) * v0))).1) && (sumOk v13 && sumOk ((q4 (w64 ((w64 (0 - (0 : Int))) * v0))).2))) then G 1 (wbins_C1_1 v0 v1 v2 v3 v4 v5 v6 v7 v8 v9 v10 v11 (v12 + (q4 (w64 ((w64 (0 - (0 : Int))) * v0))).1) (v13 + (q4 (w64 ((w64 (0 - (0 : Int))) * v0))).2) v14 v15 v16 v17 v18 v19) else none
theorem wbins_l1_0 (G : Nat → ASt E → Option (List (TV E))) (v0 : Int) (v1 : List Bool) (v2 : Int) (v3 : Int) (v4 : Int) (v5 : Int) (v6 : Int) (v7 : Int) (v8 : Int) (v9 : Int) (v10 : Int) (v11 : Int) (v12 : Int) (v13 : Int) (v14 : Int) (v15 : Int) (v16 : Int) (v17 : Int) (v18 : Int) (v19 : Int) : runL wbins_O wbins_H G Try.f11 1 (wbins_C1_0 v0 v1 v2 v3 v4 v5 v6 v7 v8 v9 v10 v11 v12 v13 v14 v15 v16 v17 v18 v19) = wbins_t1_0 G v0 v1 v2 v3 v4 v5 v6 v7 v8 v9 v10 v11 v12 v13 v14 v15 v16 v17 v18 v19 := by kernel_rfl
noncomputable def wbins_t1_1 (G : Nat → ASt E → Option (List (TV E))) (v0 : Int) (v1 : List Bool) (v2 : Int) (v3 : Int) (v4 : Int) (v5 : Int) (v6 : Int) (v7 : Int) (v8 : Int) (v9 : Int) (v10 : Int) (v11 : Int) (v12 : Int) (v13 : Int) (v14 : Int) (v15 : Int) (v16 : Int) (v17 : Int) (v18 : Int) (v19 : Int) : Option (List (TV E)) :=
  bif (sumOk v14 && sumOk ((q4 (w64 ((w64 (0 - (1 : Int))) * v0))).1) && (sumOk v15 && sumOk ((q4 (w64 ((w64 (0 - (1 : Int))) * v0))).2))) then G 1 (wbins_C1_2 v0 v1 v2 v3 v4 v5 v6 v7 v8 v9 v10 v11 v12 v13 (v14 + (q4 (w64 ((w64 (0 - (1 : Int))) * v0))).1) (v15 + (q4 (w64 ((w64 (0 - (1 : Int))) * v0))).2) v16 v17 v18 v19) else none
theorem wbins_l1_1 (G : Nat → ASt E → Option (List (TV E))) (v0 : Int) (v1 : List Bool) (v2 : Int) (v3 : Int) (v4 : Int) (v5 : Int) (v6 : Int) (v7 : Int) (v8 : Int) (v9 : Int) (v10 : Int) (v11 : Int) (v12 : Int) (v13 : Int) (v14 : Int) (v15 : Int) (v16 : Int) (v17 : Int) (v18 : Int) (v19 : Int) : runL wbins_O wbins_H G Try.f11 1 (wbins_C1_1 v0 v1 v2 v3 v4 v5 v6 v7 v8 v9 v10 v11 v12 v13 v14 v15 v16 v17 v18 v19) = wbins_t1_1 G v0 v1 v2 v3 v4 v5 v6 v7 v8 v9 v10 v11 v12 v13 v14 v15 v16 v17 v18 v19 := by kernel_rfl
noncomputable def wbins_t1_2 (G : Nat → ASt E → Option (List (TV E))) (v0 : Int) (v1 : List Bool) (v2 : Int) (v3 : Int) (v4 : Int) (v5 : Int) (v6 : Int) (v7 : Int) (v8 : Int) (v9 : Int) (v10 : Int) (v11 : Int) (v12 : Int) (v13 : Int) (v14 : Int) (v15 : Int) (v16 : Int) (v17 : Int) (v18 : Int) (v19 : Int) : Option (List (TV E)) :=
  bif (sumOk v16 && sumOk ((q4 (w64 ((w64 (0 - (2 : Int))) * v0))).1) && (sumOk v17 && sumOk ((q4 (w64 ((w64 (0 - (2 : Int))) * v0))).2))) then G 1 (wbins_C1_3 v0 v1 v2 v3 v4 v5 v6 v7 v8 v9 v10 v11 v12 v13 v14 v15 (v16 + (q4 (w64 ((w64 (0 - (2 : Int))) * v0))).1) (v17 + (q4 (w64 ((w64 (0 - (2 : Int))) * v0))).2) v18 v19) else none
theorem wbins_l1_2 (G : Nat → ASt E → Option (List (TV E))) (v0 : Int) (v1 : List Bool) (v2 : Int) (v3 : Int) (v4 : Int) (v5 : Int) (v6 : Int) (v7 : Int) (v8 : Int) (v9 : Int) (v10 : Int) (v11 : Int) (v12 : Int) (v13 : Int) (v14 : Int) (v15 : Int) (v16 : Int) (v17 : Int) (v18 : Int) (v19 : Int) : runL wbins_O wbins_H G Try.f11 1 (wbins_C1_2 v0 v1 v2 v3 v4 v5 v6 v7 v8 v9 v10 v11 v12 v13 v14 v15 v16 v17 v18 v19) = wbins_t1_2 G v0 v1 v2 v3 v4 v5 v6 v7 v8 v9 v10 v11 v12 v13 v14 v15 v16 v17 v18 v19 := by kernel_rfl
noncomputable def wbins_t1_3 (G : Nat → ASt E → Option (List (TV E))) (v0 : Int) (v1 : List Bool) (v2 : Int) (v3 : Int) (v4 : Int) (v5 : Int) (v6 : Int) (v7 : Int) (v8 : Int) (v9 : Int) (v10 : Int) (v11 : Int) (v12 : Int) (v13 : Int) (v14 : Int) (v15 : Int) (v16 : Int) (v17 : Int) (v18 : Int) (v19 : Int) : Option (List (TV E)) :=
  bif (sumOk v18 && sumOk ((q4 (w64 ((w64 (0 - (3 : Int))) * v0))).1) && (sumOk v19 && sumOk ((q4 (w64 ((w64 (0 - (3 : Int))) * v0))).2))) then G 1 (wbins_C1_4 v0 v1 v2 v3 v4 v5 v6 v7 v8 v9 v10 v11 v12 v13 v14 v15 v16 v17 (v18 + (q4 (w64 ((w64 (0 - (3 : Int))) * v0))).1) (v19 + (q4 (w64 ((w64 (0 - (3 : Int))) * v0))).2)) else none
theorem wbins_l1_3 (G : Nat → ASt E → Option (List (TV E))) (v0 : Int) (v1 : List Bool) (v2 : Int) (v3 : Int) (v4 : Int) (v5 : Int) (v6 : Int) (v7 : Int) (v8 : Int) (v9 : Int) (v10 : Int) (v11 : Int) (v12 : Int) (v13 : Int) (v14 : Int) (v15 : Int) (v16 : Int) (v17 : Int) (v18 : Int) (v19 : Int) : runL wbins_O wbins_H G Try.f11 1 (wbins_C1_3 v0 v1 v2 v3 v4 v5 v6 v7 v8 v9 v10 v11 v12 v13 v14 v15 v16 v17 v18 v19) = wbins_t1_3 G v0 v1 v2 v3 v4 v5 v6 v7 v8 v9 v10 v11 v12 v13 v14 v15 v16 v17 v18 v19 := by kernel_rfl
noncomputable def wbins_t1_4 (G : Nat → ASt E → Option (List (TV E))) (_v0 : Int) (v1 : List Bool) (v2 : Int) (v3 : Int) (v4 : Int) (v5 : Int) (v6 : Int) (v7 : Int) (v8 : Int) (v9 : Int) (v10 : Int) (v11 : Int) (v12 : Int) (v13 : Int) (v14 : Int) (v15 : Int) (v16 : Int) (v17 : Int) (v18 : Int) (v19 : Int) : Option (List (TV E)) :=
  G 0 (wbins_C0 v1 v2 (w64 (v3 + (1 : Int))) v4 v5 v6 v7 v8 v9 v10 v11 v12 v13 v14 v15 v16 v17 v18 v19)
theorem wbins_l1_4 (G : Nat → ASt E → Option (List (TV E))) (v0 : Int) (v1 : List Bool) (v2 : Int) (v3 : Int) (v4 : Int) (v5 : Int) (v6 : Int) (v7 : Int) (v8 : Int) (v9 : Int) (v10 : Int) (v11 : Int) (v12 : Int) (v13 : Int) (v14 : Int) (v15 : Int) (v16 : Int) (v17 : Int) (v18 : Int) (v19 : Int) : runL wbins_O wbins_H G Try.f11 1 (wbins_C1_4 v0 v1 v2 v3 v4 v5 v6 v7 v8 v9 v10 v11 v12 v13 v14 v15 v16 v17 v18 v19) = wbins_t1_4 G v0 v1 v2 v3 v4 v5 v6 v7 v8 v9 v10 v11 v12 v13 v14 v15 v16 v17 v18 v19 := by kernel_rfl
theorem wbins_f : Try.prog.funcs[11]? = some Try.f11 := by kernel_rfl
theorem wbins_n : (Try.f11.name == "runtime.NumGoroutine") = false := by kernel_rfl
theorem wbins_b : Try.f11.body.isNone = false := by kernel_rfl
theorem wbins_hO : OracleOk E wbins_O := orac_ok (.cons wlast_ok (.cons wunit_ok .nil)) .nil
theorem wbins_s0 {res : List (TV E)} {v0 : List Bool} {v1 : Int} {v2 : Int} {v3 : Int} {v4 : Int} {v5 : Int} {v6 : Int} {v7 : Int} {v8 : Int} {v9 : Int} {v10 : Int} {v11 : Int} {v12 : Int} {v13 : Int} {v14 : Int} {v15 : Int} {v16 : Int} {v17 : Int} {v18 : Int} (h : wbins_t0 (Gr E Try.f11 res) v0 v1 v2 v3 v4 v5 v6 v7 v8 v9 v10 v11 v12 v13 v14 v15 v16 v17 v18 = some res) : Ev E Try.f11 res 0 (wbins_C0 v0 v1 v2 v3 v4 v5 v6 v7 v8 v9 v10 v11 v12 v13 v14 v15 v16 v17 v18) := Ev.step wbins_hO mix ((wbins_l0 _ v0 v1 v2 v3 v4 v5 v6 v7 v8 v9 v10 v11 v12 v13 v14 v15 v16 v17 v18).trans h)
theorem wbins_s1_0 {res : List (TV E)} {v0 : Int} {v1 : List Bool} {v2 : Int} {v3 : Int} {v4 : Int} {v5 : Int} {v6 : Int} {v7 : Int} {v8 : Int} {v9 : Int} {v10 : Int} {v11 : Int} {v12 : Int} {v13 : Int} {v14 : Int} {v15 : Int} {v16 : Int} {v17 : Int} {v18 : Int} {v19 : Int} (h : wbins_t1_0 (Gr E Try.f11 res) v0 v1 v2 v3 v4 v5 v6 v7 v8 v9 v10 v11 v12 v13 v14 v15 v16 v17 v18 v19 = some res) : Ev E Try.f11 res 1 (wbins_C1_0 v0 v1 v2 v3 v4 v5 v6 v7 v8 v9 v10 v11 v12 v13 v14 v15 v16 v17 v18 v19) := Ev.step wbins_hO mix ((wbins_l1_0 _ v0 v1 v2 v3 v4 v5 v6 v7 v8 v9 v10 v11 v12 v13 v14 v15 v16 v17 v18 v19).trans h)
theorem wbins_s1_1 {res : List (TV E)} {v0 : Int} {v1 : List Bool} {v2 : Int} {v3 : Int} {v4 : Int} {v5 : Int} {v6 : Int} {v7 : Int} {v8 : Int} {v9 : Int} {v10 : Int} {v11 : Int} {v12 : Int} {v13 : Int} {v14 : Int} {v15 : Int} {v16 : Int} {v17 : Int} {v18 : Int} {v19 : Int} (h : wbins_t1_1 (Gr E Try.f11 res) v0 v1 v2 v3 v4 v5 v6 v7 v8 v9 v10 v11 v12 v13 v14 v15 v16 v17 v18 v19 = some res) : Ev E Try.f11 res 1 (wbins_C1_1 v0 v1 v2 v3 v4 v5 v6 v7 v8 v9 v10 v11 v12 v13 v14 v15 v16 v17 v18 v19) := Ev.step wbins_hO mix ((wbins_l1_1 _ v0 v1 v2 v3 v4 v5 v6 v7 v8 v9 v10 v11 v12 v13 v14 v15 v16 v17 v18 v19).trans h)
theorem wbins_s1_2 {res : List (TV E)} {v0 : Int} {v1 : List Bool} {v2 : Int} {v3 : Int} {v4 : Int} {v5 : Int} {v6 : Int} {v7 : Int} {v8 : Int} {v9 : Int} {v10 : Int} {v11 : Int} {v12 : Int} {v13 : Int} {v14 : Int} {v15 : Int} {v16 : Int} {v17 : Int} {v18 : Int} {v19 : Int} (h : wbins_t1_2 (Gr E Try.f11 res) v0 v1 v2 v3 v4 v5 v6 v7 v8 v9 v10 v11 v12 v13 v14 v15 v16 v17 v18 v19 = some res) : Ev E Try.f11 res 1 (wbins_C1_2 v0 v1 v2 v3 v4 v5 v6 v7 v8 v9 v10 v11 v12 v13 v14 v15 v16 v17 v18 v19) := Ev.step wbins_hO mix ((wbins_l1_2 _ v0 v1 v2 v3 v4 v5 v6 v7 v8 v9 v10 v11 v12 v13 v14 v15 v16 v17 v18 v19).trans h)
theorem wbins_s1_3 {res : List (TV E)} {v0 : Int} {v1 : List Bool} {v2 : Int} {v3 : Int} {v4 : Int} {v5 : Int} {v6 : Int} {v7 : Int} {v8 : Int} {v9 : Int} {v10 : Int} {v11 : Int} {v12 : Int} {v13 : Int} {v14 : Int} {v15 : Int} {v16 : Int} {v17 : Int} {v18 : Int} {v19 : Int} (h : wbins_t1_3 (Gr E Try.f11 res) v0 v1 v2 v3 v4 v5 v6 v7 v8 v9 v10 v11 v12 v13 v14 v15 v16 v17 v18 v19 = some res) : Ev E Try.f11 res 1 (wbins_C1_3 v0 v1 v2 v3 v4 v5 v6 v7 v8 v9 v10 v11 v12 v13 v14 v15 v16 v17 v18 v19) := Ev.step wbins_hO mix ((wbins_l1_3 _ v0 v1 v2 v3 v4 v5 v6 v7 v8 v9 v10 v11 v12 v13 v14 v15 v16 v17 v18 v19).trans h)
theorem wbins_s1_4 {res : List (TV E)} {v0 : Int} {v1 : List Bool} {v2 : Int} {v3 : Int} {v4 : Int} {v5 : Int} {v6 : Int} {v7 : Int} {v8 : Int} {v9 : Int} {v10 : Int} {v11 : Int} {v12 : Int} {v13 : Int} {v14 : Int} {v15 : Int} {v16 : Int} {v17 : Int} {v18 : Int} {v19 : Int} (h : wbins_t1_4 (Gr E Try.f11 res) v0 v1 v2 v3 v4 v5 v6 v7 v8 v9 v10 v11 v12 v13 v14 v15 v16 v17 v18 v19 = some res) : Ev E Try.f11 res 1 (wbins_C1_4 v0 v1 v2 v3 v4 v5 v6 v7 v8 v9 v10 v11 v12 v13 v14 v15 v16 v17 v18 v19) := Ev.step wbins_hO mix ((wbins_l1_4 _ v0 v1 v2 v3 v4 v5 v6 v7 v8 v9 v10 v11 v12 v13 v14 v15 v16 v17 v18 v19).trans h)
theorem wbins_ok_of (h : ∀ (x0 : List Bool), small x0 = true → wbins_t (Gr E Try.f11 [⟨.a4_complex, bins x0⟩]) x0 = some [⟨.a4_complex, bins x0⟩]) : FnOk E wbins_id wbins_W := fn1_ok wbins_hO mix wbins_f wbins_n wbins_b (fun x0 hk => (wbins_e _ x0).trans (h x0 hk))
theorem wbins_loop (l : List Bool) (hl : l.length ≤ 256) (u1 u2 u3 u4 u5 u6 u7 u8 : Int) : ∀ (m i : Nat) (a b c d : C), l.length - i = m → i ≤ l.length → bdC a i → bdC b i → bdC c i → bdC d i →
    Ev E Try.f11 [⟨.a4_complex, ⟨binA 0 i a (l.drop i), binA 1 i b (l.drop i), binA 2 i c (l.drop i), binA 3 i d (l.drop i)⟩⟩] 0 (wbins_C0 l l.length i u1 u2 u3 u4 u5 u6 u7 u8 a.1 a.2 b.1 b.2 c.1 c.2 d.1 d.2) := by
  intro m
  induction m with
  | zero =>
    intro i a b c d h1 h2 _ _ _ _
    refine wbins_s0 ?_
    have e : l.drop i = [] := List.drop_eq_nil_of_le (by omega)
    simp only [wbins_t0, Bool.cond_eq_ite, decide_eq_true_eq]
    rw [if_neg (by omega), e]
    rfl
  | succ m ih =>
    intro i a b c d h1 h2 k1 k2 k3 k4
    have hi : i < l.length := by omega
    have hg : List.getD l (Int.toNat (i : Int)) (dflt .bool) = l[i] := by rw [Int.toNat_natCast, List.getD, List.getElem?_eq_getElem hi]; rfl
    refine wbins_s0 ?_
    simp only [wbins_t0, hg]
    rw [show decide ((i : Int) < (l.length : Int)) = true from by simp only [decide_eq_true_eq]; omega, show decide ((0 : Int) ≤ (i : Int)) = true from by simp only [decide_eq_true_eq]; omega]
    simp only [Bool.and_self, cond_true]
    rw [← List.getElem_cons_drop hi]
    simp only [binA]
    cases hb : l[i] with
    | false =>
      simp only [Bool.not_false, cond_true, Bool.false_eq_true, if_false]
      rw [w64_id (by omega) (by omega)]
      unfold bdC at k1 k2 k3 k4
      exact Gr_of (ih (i + 1) a b c d (by omega) (by omega) (by unfold bdC; omega) (by unfold bdC; omega) (by unfold bdC; omega) (by unfold bdC; omega))
    | true =>
      simp only [Bool.not_true, cond_false, if_true]
      refine Gr_of (wbins_s1_0 ?_)
      simp only [wbins_t1_0, negk 0 i (by decide) (by decide) (by omega), bdC_sum k1 (by omega), cond_true]
      refine Gr_of (wbins_s1_1 ?_)
      simp only [wbins_t1_1, negk 1 i (by decide) (by decide) (by omega), bdC_sum k2 (by omega), cond_true]
      refine Gr_of (wbins_s1_2 ?_)
      simp only [wbins_t1_2, negk 2 i (by decide) (by decide) (by omega), bdC_sum k3 (by omega), cond_true]
      refine Gr_of (wbins_s1_3 ?_)
      simp only [wbins_t1_3, negk 3 i (by decide) (by decide) (by omega), bdC_sum k4 (by omega), cond_true]
      refine Gr_of (wbins_s1_4 ?_)
      simp only [wbins_t1_4]
      rw [w64_id (by omega) (by omega)]
      exact Gr_of (ih (i + 1) (addC a (q4 (-(0 * i)))) (addC b (q4 (-(1 * i)))) (addC c (q4 (-(2 * i)))) (addC d (q4 (-(3 * i)))) (by omega) (by omega) (bdC_add k1) (bdC_add k2) (bdC_add k3) (bdC_add k4))
theorem bd0 : bdC (0, 0) ((0 : Nat) : Int) := by unfold bdC; decide
theorem small_last {h : List Bool} : small (last h) = true := by have := last_len h; simp only [small, decide_eq_true_eq]; omega
theorem wbins_ok : FnOk E wbins_id wbins_W := wbins_ok_of fun h hk => by
  simp only [wbins_t, hk, cond_true]
  have := wbins_loop (last h) (last_len h) 0 0 0 0 0 0 0 0 _ 0 (0, 0) (0, 0) (0, 0) (0, 0) rfl (Nat.zero_le _) bd0 bd0 bd0 bd0
  rw [List.drop_zero] at this
  exact Gr_of this

def beat (h : List Bool) : Int :=
  if (last h).length < 8 then 0 else if ((last h).length : Int) * (last h).length ≤ 8 * powerV (bin h 2) then 2 else if ((last h).length : Int) * (last h).length ≤ 16 * powerV (bin h 1) then 4 else 0
theorem powerV_bd (h : List Bool) (k : Int) : powerV (bin h k) = (bin h k).1 * (bin h k).1 + (bin h k).2 * (bin h k).2 ∧ 0 ≤ powerV (bin h k) ∧ powerV (bin h k) ≤ 10000000000000 := by
  have hb := bin_bd h k
  unfold bdC at hb
  have e : powerV (bin h k) = (bin h k).1 * (bin h k).1 + (bin h k).2 * (bin h k).2 := by unfold powerV; rw [if_pos (inC_iff.2 (by omega))]
  have s1 := sq_bd (bin h k).1 (by omega) (by omega)
  have s2 := sq_bd (bin h k).2 (by omega) (by omega)
  refine ⟨e, ?_, ?_⟩ <;> omega
theorem okC_bin (h : List Bool) (k : Int) : okC (bin h k) = true := by
  have hb := bin_bd h k
  unfold bdC at hb
  unfold okC
  rw [fltOk_of (by omega) (by omega), fltOk_of (by omega) (by omega)]
  rfl
theorem len2 (h : List Bool) : 0 ≤ ((last h).length : Int) * (last h).length ∧ ((last h).length : Int) * (last h).length ≤ 1099511627776 := by
  have := last_len h
  exact sq_bd _ (by omega) (by omega)
theorem beat_tree (n : Nat) (L P2 P1 : Int) (hL : 0 ≤ L ∧ L ≤ 1099511627776) (h2 : 0 ≤ P2 ∧ P2 ≤ 10000000000000) (h1 : 0 ≤ P1 ∧ P1 ≤ 10000000000000) :
    (if (n : Int) < 8 then some [⟨.int, (0 : Int)⟩] else if w64 L ≤ w64 (8 * P2) then some [⟨.int, (2 : Int)⟩] else if w64 L ≤ w64 (16 * P1) then some [⟨.int, (4 : Int)⟩] else some [⟨.int, (0 : Int)⟩] : Option (List (TV E))) =
      some [⟨.int, (if n < 8 then 0 else if L ≤ 8 * P2 then 2 else if L ≤ 16 * P1 then 4 else 0 : Int)⟩] := by
  rw [w64_id (n := L) (by omega) (by omega), w64_id (n := 8 * P2) (by omega) (by omega), w64_id (n := 16 * P1) (by omega) (by omega)]
  by_cases c1 : n < 8
  · rw [if_pos (by omega), if_pos c1]
  · rw [if_neg (by omega), if_neg c1]
    split
    · rfl
    · split <;> rfl
noncomputable def wbeat_W : FnW E := fn1 (E := E) .l_bool .int small beat
def wbeat_id : FuncId := 16
noncomputable def wbeat_O : Oracle E := orac [(11, wbins_W), (14, wpower_W), (33, wlast_W)] []
noncomputable def wbeat_H : Hint E := Hint.mk [] [] []
noncomputable def wbeat_t (_G : Nat → ASt E → Option (List (TV E))) (x0 : List Bool) : Option (List (TV E)) :=
  bif (small x0) then (bif (small x0) then (bif (decide (((last x0).length : Int) < (8 : Int))) then some [⟨.int, (0 : Int)⟩] else (bif (okC ((bins x0).e2)) then (bif (decide ((w64 (((last x0).length : Int) * ((last x0).length : Int))) ≤ (w64 ((8 : Int) * (powerV ((bins x0).e2)))))) then some [⟨.int, (2 : Int)⟩] else (bif (okC ((bins x0).e1)) then (bif (decide ((w64 (((last x0).length : Int) * ((last x0).length : Int))) ≤ (w64 ((16 : Int) * (powerV ((bins x0).e1)))))) then some [⟨.int, (4 : Int)⟩] else some [⟨.int, (0 : Int)⟩]) else none)) else none)) else none) else none
theorem wbeat_e (G : Nat → ASt E → Option (List (TV E))) (x0 : List Bool) : runE wbeat_O wbeat_H G Try.f16 [⟨.l_bool, x0⟩] = wbeat_t G x0 := by kernel_rfl
theorem wbeat_f : Try.prog.funcs[16]? = some Try.f16 := by kernel_rfl
theorem wbeat_n : (Try.f16.name == "runtime.NumGoroutine") = false := by kernel_rfl
theorem wbeat_b : Try.f16.body.isNone = false := by kernel_rfl
theorem wbeat_hO : OracleOk E wbeat_O := orac_ok (.cons wbins_ok (.cons wpower_ok (.cons wlast_ok .nil))) .nil
theorem wbeat_ok_of (h : ∀ (x0 : List Bool), small x0 = true → wbeat_t (Gr E Try.f16 [⟨.int, beat x0⟩]) x0 = some [⟨.int, beat x0⟩]) : FnOk E wbeat_id wbeat_W := fn1_ok wbeat_hO mix wbeat_f wbeat_n wbeat_b (fun x0 hk => (wbeat_e _ x0).trans (h x0 hk))
theorem wbeat_ok : FnOk E wbeat_id wbeat_W := wbeat_ok_of fun h hk => by
  have p2 := powerV_bd h 2
  have p1 := powerV_bd h 1
  have hl := len2 h
  have e1 : (bins h).e1 = bin h 1 := by simp only [bins]
  have e2 : (bins h).e2 = bin h 2 := by simp only [bins]
  unfold wbeat_t
  rw [e1, e2]
  simp only [hk, okC_bin, beat, Bool.cond_eq_ite, ↓reduceIte]
  simp only [decide_eq_true_eq]
  exact beat_tree (last h).length _ _ _ hl p2.2 p1.2
def bad (h : List Bool) : Int := (bin h 0).1
noncomputable def wbad_W : FnW E := fn1 (E := E) .l_bool .int small bad
def wbad_id : FuncId := 18
noncomputable def wbad_O : Oracle E := orac [(11, wbins_W)] []
noncomputable def wbad_H : Hint E := Hint.mk [] [] []
noncomputable def wbad_t (_G : Nat → ASt E → Option (List (TV E))) (x0 : List Bool) : Option (List (TV E)) :=
  bif (small x0) then (bif (fltOk (((bins x0).e0).1)) then some [⟨.int, ((bins x0).e0).1⟩] else none) else none
theorem wbad_e (G : Nat → ASt E → Option (List (TV E))) (x0 : List Bool) : runE wbad_O wbad_H G Try.f18 [⟨.l_bool, x0⟩] = wbad_t G x0 := by kernel_rfl
theorem wbad_f : Try.prog.funcs[18]? = some Try.f18 := by kernel_rfl
theorem wbad_n : (Try.f18.name == "runtime.NumGoroutine") = false := by kernel_rfl
theorem wbad_b : Try.f18.body.isNone = false := by kernel_rfl
theorem wbad_hO : OracleOk E wbad_O := orac_ok (.cons wbins_ok .nil) .nil
theorem wbad_ok_of (h : ∀ (x0 : List Bool), small x0 = true → wbad_t (Gr E Try.f18 [⟨.int, bad x0⟩]) x0 = some [⟨.int, bad x0⟩]) : FnOk E wbad_id wbad_W := fn1_ok wbad_hO mix wbad_f wbad_n wbad_b (fun x0 hk => (wbad_e _ x0).trans (h x0 hk))
theorem wbad_ok : FnOk E wbad_id wbad_W := wbad_ok_of fun h hk => by
  have := okC_bin h 0
  simp only [okC, Bool.and_eq_true] at this
  simp only [wbad_t, hk, cond_true, bins, this.1, bad]

/-! ### The reference -/
def pt (z : C) : Point := ⟨z.1, z.2⟩
def rturnedV (n : Int) : Point := pt (q4 n)
noncomputable def rturned_W : FnW E := fn1 (E := E) .int .ref29_Point (fun _ => true) rturnedV
def rturned_id : FuncId := 36
noncomputable def rturned_O : Oracle E := orac [] []
noncomputable def rturned_H : Hint E := Hint.mk [] [] []
noncomputable def rturned_t (_G : Nat → ASt E → Option (List (TV E))) (x0 : Int) : Option (List (TV E)) :=
  bif (!((4 : Int) == (0 : Int))) then (bif (decide ((Int.tmod x0 (4 : Int)) < (0 : Int))) then (bif ((w64 ((Int.tmod x0 (4 : Int)) + (4 : Int))) == (0 : Int)) then some [⟨.ref29_Point, (⟨(1 : Int), (0 : Int)⟩ : Point)⟩] else (bif ((w64 ((Int.tmod x0 (4 : Int)) + (4 : Int))) == (1 : Int)) then some [⟨.ref29_Point, (⟨(0 : Int), (1 : Int)⟩ : Point)⟩] else (bif ((w64 ((Int.tmod x0 (4 : Int)) + (4 : Int))) == (2 : Int)) then some [⟨.ref29_Point, (⟨(-1 : Int), (0 : Int)⟩ : Point)⟩] else some [⟨.ref29_Point, (⟨(0 : Int), (-1 : Int)⟩ : Point)⟩]))) else (bif ((Int.tmod x0 (4 : Int)) == (0 : Int)) then some [⟨.ref29_Point, (⟨(1 : Int), (0 : Int)⟩ : Point)⟩] else (bif ((Int.tmod x0 (4 : Int)) == (1 : Int)) then some [⟨.ref29_Point, (⟨(0 : Int), (1 : Int)⟩ : Point)⟩] else (bif ((Int.tmod x0 (4 : Int)) == (2 : Int)) then some [⟨.ref29_Point, (⟨(-1 : Int), (0 : Int)⟩ : Point)⟩] else some [⟨.ref29_Point, (⟨(0 : Int), (-1 : Int)⟩ : Point)⟩])))) else none
theorem rturned_e (G : Nat → ASt E → Option (List (TV E))) (x0 : Int) : runE rturned_O rturned_H G Try.f36 [⟨.int, x0⟩] = rturned_t G x0 := by kernel_rfl
theorem rturned_f : Try.prog.funcs[36]? = some Try.f36 := by kernel_rfl
theorem rturned_n : (Try.f36.name == "runtime.NumGoroutine") = false := by kernel_rfl
theorem rturned_b : Try.f36.body.isNone = false := by kernel_rfl
theorem rturned_hO : OracleOk E rturned_O := orac_ok .nil .nil
theorem rturned_ok_of (h : ∀ (x0 : Int), rturned_t (Gr E Try.f36 [⟨.ref29_Point, rturnedV x0⟩]) x0 = some [⟨.ref29_Point, rturnedV x0⟩]) : FnOk E rturned_id rturned_W := fn1_ok rturned_hO mix rturned_f rturned_n rturned_b (fun x0 _ => (rturned_e _ x0).trans (h x0))
theorem rturned_ok : FnOk E rturned_id rturned_W := rturned_ok_of fun n => by
  rcases tmod4 n with ⟨h, h4⟩ | ⟨h, h4⟩ | ⟨h, h4⟩ | ⟨h, h4⟩ | ⟨h, h4⟩ | ⟨h, h4⟩ | ⟨h, h4⟩ <;>
  · simp only [rturned_t, h, rturnedV, q4, h4]
    rfl
def okP (p : Point) : Bool := inR p.re && inR p.im
def okPP (p q : Point) : Bool := okP p && okP q
def times (a b : Point) : Point := ⟨a.re * b.re - a.im * b.im, a.re * b.im + a.im * b.re⟩
theorem mul_bd (x y : Int) (h1 : -1048576 ≤ x) (h2 : x ≤ 1048576) (h3 : -1048576 ≤ y) (h4 : y ≤ 1048576) : -1099511627776 ≤ x * y ∧ x * y ≤ 1099511627776 := by
  have : (x * y).natAbs ≤ 1048576 * 1048576 := by rw [Int.natAbs_mul]; exact Nat.mul_le_mul (by omega) (by omega)
  omega
noncomputable def rtimes_W : FnW E := fn2 (E := E) .ref29_Point .ref29_Point .ref29_Point okPP times
def rtimes_id : FuncId := 38
noncomputable def rtimes_O : Oracle E := orac [] []
noncomputable def rtimes_H : Hint E := Hint.mk [] [] []
noncomputable def rtimes_t (_G : Nat → ASt E → Option (List (TV E))) (x0 : Point) (x1 : Point) : Option (List (TV E)) :=
  some [⟨.ref29_Point, (⟨(w64 ((w64 (x0.re * x1.re)) - (w64 (x0.im * x1.im)))), (w64 ((w64 (x0.re * x1.im)) + (w64 (x0.im * x1.re))))⟩ : Point)⟩]
theorem rtimes_e (G : Nat → ASt E → Option (List (TV E))) (x0 : Point) (x1 : Point) : runE rtimes_O rtimes_H G Try.f38 [⟨.ref29_Point, x0⟩, ⟨.ref29_Point, x1⟩] = rtimes_t G x0 x1 := by kernel_rfl
theorem rtimes_f : Try.prog.funcs[38]? = some Try.f38 := by kernel_rfl
theorem rtimes_n : (Try.f38.name == "runtime.NumGoroutine") = false := by kernel_rfl
theorem rtimes_b : Try.f38.body.isNone = false := by kernel_rfl
theorem rtimes_hO : OracleOk E rtimes_O := orac_ok .nil .nil
theorem rtimes_ok_of (h : ∀ (x0 : Point) (x1 : Point), okPP x0 x1 = true → rtimes_t (Gr E Try.f38 [⟨.ref29_Point, times x0 x1⟩]) x0 x1 = some [⟨.ref29_Point, times x0 x1⟩]) : FnOk E rtimes_id rtimes_W := fn2_ok rtimes_hO mix rtimes_f rtimes_n rtimes_b (fun x0 x1 hk => (rtimes_e _ x0 x1).trans (h x0 x1 hk))
theorem rtimes_ok : FnOk E rtimes_id rtimes_W := rtimes_ok_of fun a b hk => by
  simp only [okPP, okP, Bool.and_eq_true, inR_iff] at hk
  obtain ⟨⟨⟨a1, a2⟩, a3, a4⟩, ⟨b1, b2⟩, b3, b4⟩ := hk
  have m1 := mul_bd a.re b.re a1 a2 b1 b2
  have m2 := mul_bd a.im b.im a3 a4 b3 b4
  have m3 := mul_bd a.re b.im a1 a2 b3 b4
  have m4 := mul_bd a.im b.re a3 a4 b1 b2
  simp only [rtimes_t, times]
  rw [w64_id (n := a.re * b.re) (by omega) (by omega), w64_id (n := a.im * b.im) (by omega) (by omega), w64_id (n := a.re * b.im) (by omega) (by omega), w64_id (n := a.im * b.re) (by omega) (by omega), w64_id (by omega) (by omega), w64_id (by omega) (by omega)]
def turnP (p : Point) (n : Int) : Point := times p (rturnedV n)
theorem okP_turned (n : Int) : okP (rturnedV n) = true := by
  have := q4_bd n
  simp only [okP, rturnedV, pt, Bool.and_eq_true, inR_iff]
  omega
noncomputable def rturn_W : FnW E := fn2 (E := E) .ref29_Point .int .ref29_Point (fun p _ => okP p) turnP
def rturn_id : FuncId := 20
noncomputable def rturn_O : Oracle E := orac [(38, rtimes_W), (36, rturned_W)] []
noncomputable def rturn_H : Hint E := Hint.mk [] [] []
noncomputable def rturn_t (_G : Nat → ASt E → Option (List (TV E))) (x0 : Point) (x1 : Int) : Option (List (TV E)) :=
  bif (okPP x0 (rturnedV x1)) then some [⟨.ref29_Point, (times x0 (rturnedV x1))⟩] else none
theorem rturn_e (G : Nat → ASt E → Option (List (TV E))) (x0 : Point) (x1 : Int) : runE rturn_O rturn_H G Try.f20 [⟨.ref29_Point, x0⟩, ⟨.int, x1⟩] = rturn_t G x0 x1 := by kernel_rfl
theorem rturn_f : Try.prog.funcs[20]? = some Try.f20 := by kernel_rfl
theorem rturn_n : (Try.f20.name == "runtime.NumGoroutine") = false := by kernel_rfl
theorem rturn_b : Try.f20.body.isNone = false := by kernel_rfl
theorem rturn_hO : OracleOk E rturn_O := orac_ok (.cons rtimes_ok (.cons rturned_ok .nil)) .nil
theorem rturn_ok_of (h : ∀ (x0 : Point) (x1 : Int), (fun p _ => okP p) x0 x1 = true → rturn_t (Gr E Try.f20 [⟨.ref29_Point, turnP x0 x1⟩]) x0 x1 = some [⟨.ref29_Point, turnP x0 x1⟩]) : FnOk E rturn_id rturn_W := fn2_ok rturn_hO mix rturn_f rturn_n rturn_b (fun x0 x1 hk => (rturn_e _ x0 x1).trans (h x0 x1 hk))
theorem rturn_ok : FnOk E rturn_id rturn_W := rturn_ok_of fun p n hk => by
  simp only [rturn_t, okPP, hk, okP_turned, Bool.and_self, cond_true, turnP]
def powerP (p : Point) : Int := p.re * p.re + p.im * p.im
noncomputable def rpower_W : FnW E := fn1 (E := E) .ref29_Point .int okP powerP
def rpower_id : FuncId := 15
noncomputable def rpower_O : Oracle E := orac [] []
noncomputable def rpower_H : Hint E := Hint.mk [] [] []
noncomputable def rpower_t (_G : Nat → ASt E → Option (List (TV E))) (x0 : Point) : Option (List (TV E)) :=
  some [⟨.int, (w64 ((w64 (x0.re * x0.re)) + (w64 (x0.im * x0.im))))⟩]
theorem rpower_e (G : Nat → ASt E → Option (List (TV E))) (x0 : Point) : runE rpower_O rpower_H G Try.f15 [⟨.ref29_Point, x0⟩] = rpower_t G x0 := by kernel_rfl
theorem rpower_f : Try.prog.funcs[15]? = some Try.f15 := by kernel_rfl
theorem rpower_n : (Try.f15.name == "runtime.NumGoroutine") = false := by kernel_rfl
theorem rpower_b : Try.f15.body.isNone = false := by kernel_rfl
theorem rpower_hO : OracleOk E rpower_O := orac_ok .nil .nil
theorem rpower_ok_of (h : ∀ (x0 : Point), okP x0 = true → rpower_t (Gr E Try.f15 [⟨.int, powerP x0⟩]) x0 = some [⟨.int, powerP x0⟩]) : FnOk E rpower_id rpower_W := fn1_ok rpower_hO mix rpower_f rpower_n rpower_b (fun x0 hk => (rpower_e _ x0).trans (h x0 hk))
theorem rpower_ok : FnOk E rpower_id rpower_W := rpower_ok_of fun p hk => by
  simp only [okP, Bool.and_eq_true, inR_iff] at hk
  have m1 := sq_bd p.re hk.1.1 hk.1.2
  have m2 := sq_bd p.im hk.2.1 hk.2.2
  simp only [rpower_t, powerP]
  rw [w64_id (n := p.re * p.re) (by omega) (by omega), w64_id (n := p.im * p.im) (by omega) (by omega), w64_id (by omega) (by omega)]
def binP (h : List Bool) (k : Int) : Point := pt (bin h k)
def okBin (h : List Bool) (k : Int) : Bool := small h && (decide (0 ≤ k) && decide (k ≤ 3))
noncomputable def rbin_W : FnW E := fn2 (E := E) .l_bool .int .ref29_Point okBin binP
def rbin_id : FuncId := 13
noncomputable def rbin_O : Oracle E := orac [(35, rlast_W), (36, rturned_W)] []
noncomputable def rbin_H : Hint E := Hint.mk [(0, [0, 1, 4, 5, 6])] [] []
noncomputable def rbin_C0 (v0 : List Bool) (v1 : Int) (v2 : Int) (v3 : Int) (v4 : Int) (v5 : Int) (v6 : Int) : ASt E := ASt.mk 39 [(0, .d (.slice .bool v0)), (1, .d (.int .i64 v1)), (4, .ptr 0 0), (5, .ptr 1 0), (6, .d (.int .i64 v2))] [(0, .box [.d (.int .i64 v3), .d (.int .i64 v4)]), (1, .box [.d (.int .i64 v5), .d (.int .i64 v6)])] 2
noncomputable def rbin_t (G : Nat → ASt E → Option (List (TV E))) (x0 : List Bool) (x1 : Int) : Option (List (TV E)) :=
  bif (small x0) then G 0 (rbin_C0 (last x0) x1 (0 : Int) (0 : Int) (0 : Int) (0 : Int) (0 : Int)) else none
theorem rbin_e (G : Nat → ASt E → Option (List (TV E))) (x0 : List Bool) (x1 : Int) : runE rbin_O rbin_H G Try.f13 [⟨.l_bool, x0⟩, ⟨.int, x1⟩] = rbin_t G x0 x1 := by kernel_rfl
noncomputable def rbin_t0 (G : Nat → ASt E → Option (List (TV E))) (v0 : List Bool) (v1 : Int) (v2 : Int) (v3 : Int) (v4 : Int) (v5 : Int) (v6 : Int) : Option (List (TV E)) :=
  bif (decide (v2 < (v0.length : Int))) then (bif (decide ((0 : Int) ≤ v2) && decide (v2 < (v0.length : Int))) then (bif (List.getD v0 (Int.toNat v2) (dflt .bool)) then G 0 (rbin_C0 v0 v1 (w64 (v2 + (1 : Int))) v3 v4 (w64 (v5 + (rturnedV (w64 ((0 : Int) - (w64 (v1 * v2))))).re)) (w64 (v6 + (rturnedV (w64 ((0 : Int) - (w64 (v1 * v2))))).im))) else G 0 (rbin_C0 v0 v1 (w64 (v2 + (1 : Int))) v3 v4 v5 v6)) else none) else some [⟨.ref29_Point, (⟨v5, v6⟩ : Point)⟩]
theorem rbin_l0 (G : Nat → ASt E → Option (List (TV E))) (v0 : List Bool) (v1 : Int) (v2 : Int) (v3 : Int) (v4 : Int) (v5 : Int) (v6 : Int) : runL rbin_O rbin_H G Try.f13 0 (rbin_C0 v0 v1 v2 v3 v4 v5 v6) = rbin_t0 G v0 v1 v2 v3 v4 v5 v6 := by kernel_rfl
theorem rbin_f : Try.prog.funcs[13]? = some Try.f13 := by kernel_rfl
theorem rbin_n : (Try.f13.name == "runtime.NumGoroutine") = false := by kernel_rfl
theorem rbin_b : Try.f13.body.isNone = false := by kernel_rfl
theorem rbin_hO : OracleOk E rbin_O := orac_ok (.cons rlast_ok (.cons rturned_ok .nil)) .nil
theorem rbin_s0 {res : List (TV E)} {v0 : List Bool} {v1 : Int} {v2 : Int} {v3 : Int} {v4 : Int} {v5 : Int} {v6 : Int} (h : rbin_t0 (Gr E Try.f13 res) v0 v1 v2 v3 v4 v5 v6 = some res) : Ev E Try.f13 res 0 (rbin_C0 v0 v1 v2 v3 v4 v5 v6) := Ev.step rbin_hO mix ((rbin_l0 _ v0 v1 v2 v3 v4 v5 v6).trans h)
theorem rbin_ok_of (h : ∀ (x0 : List Bool) (x1 : Int), okBin x0 x1 = true → rbin_t (Gr E Try.f13 [⟨.ref29_Point, binP x0 x1⟩]) x0 x1 = some [⟨.ref29_Point, binP x0 x1⟩]) : FnOk E rbin_id rbin_W := fn2_ok rbin_hO mix rbin_f rbin_n rbin_b (fun x0 x1 hk => (rbin_e _ x0 x1).trans (h x0 x1 hk))
theorem rneg (k : Int) (i : Nat) (h1 : 0 ≤ k) (h2 : k ≤ 3) (hi : i ≤ 256) : w64 (0 - w64 (k * (i : Int))) = -(k * i) := by
  have : k = 0 ∨ k = 1 ∨ k = 2 ∨ k = 3 := by omega
  rcases this with rfl | rfl | rfl | rfl <;> rw [w64_id (n := _ * (i : Int)) (by omega) (by omega), w64_id (by omega) (by omega)] <;> omega
theorem rbin_loop (l : List Bool) (hl : l.length ≤ 256) (k : Int) (hk1 : 0 ≤ k) (hk2 : k ≤ 3) (u1 u2 : Int) : ∀ (m i : Nat) (a : C), l.length - i = m → i ≤ l.length → bdC a i →
    Ev E Try.f13 [⟨.ref29_Point, pt (binA k i a (l.drop i))⟩] 0 (rbin_C0 l k i u1 u2 a.1 a.2) := by
  intro m
  induction m with
  | zero =>
    intro i a h1 h2 _
    refine rbin_s0 ?_
    have e : l.drop i = [] := List.drop_eq_nil_of_le (by omega)
    simp only [rbin_t0, Bool.cond_eq_ite, decide_eq_true_eq]
    rw [if_neg (by omega), e]
    rfl
  | succ m ih =>
    intro i a h1 h2 hb
    have hi : i < l.length := by omega
    have hg : List.getD l (Int.toNat (i : Int)) (dflt .bool) = l[i] := by rw [Int.toNat_natCast, List.getD, List.getElem?_eq_getElem hi]; rfl
    refine rbin_s0 ?_
    have hq := q4_bd (-(k * (i : Int)))
    have hbb := hb
    unfold bdC at hbb
    simp only [rbin_t0, hg, rneg k i hk1 hk2 (by omega)]
    rw [show decide ((i : Int) < (l.length : Int)) = true from by simp only [decide_eq_true_eq]; omega, show decide ((0 : Int) ≤ (i : Int)) = true from by simp only [decide_eq_true_eq]; omega]
    simp only [Bool.and_self, cond_true]
    rw [← List.getElem_cons_drop hi, w64_id (n := (i : Int) + 1) (by omega) (by omega)]
    simp only [binA]
    cases hbt : l[i] with
    | false =>
      simp only [cond_false, Bool.false_eq_true, if_false]
      exact Gr_of (ih (i + 1) a (by omega) (by omega) (by unfold bdC; omega))
    | true =>
      simp only [cond_true, if_true, rturnedV, pt]
      rw [w64_id (by omega) (by omega), w64_id (by omega) (by omega)]
      exact Gr_of (ih (i + 1) (addC a (q4 (-(k * i)))) (by omega) (by omega) (bdC_add hb))
theorem rbin_ok : FnOk E rbin_id rbin_W := rbin_ok_of fun h k hk => by
  simp only [okBin, Bool.and_eq_true, decide_eq_true_eq] at hk
  simp only [rbin_t, hk.1, cond_true]
  have := rbin_loop (last h) (last_len h) k hk.2.1 hk.2.2 0 0 _ 0 (0, 0) rfl (Nat.zero_le _) bd0
  rw [List.drop_zero] at this
  exact Gr_of this
theorem okP_bin (h : List Bool) (k : Int) : okP (binP h k) = true := by
  have hb := bin_bd h k
  unfold bdC at hb
  simp only [okP, binP, pt, Bool.and_eq_true, inR_iff]
  omega
theorem powerP_bin (h : List Bool) (k : Int) : powerP (binP h k) = powerV (bin h k) := by
  rw [(powerV_bd h k).1]
  simp only [powerP, binP, pt]
noncomputable def rbeat_W : FnW E := fn1 (E := E) .l_bool .int small beat
def rbeat_id : FuncId := 17
noncomputable def rbeat_O : Oracle E := orac [(13, rbin_W), (35, rlast_W), (15, rpower_W)] []
noncomputable def rbeat_H : Hint E := Hint.mk [] [] []
noncomputable def rbeat_t (_G : Nat → ASt E → Option (List (TV E))) (x0 : List Bool) : Option (List (TV E)) :=
  bif (small x0) then (bif (decide (((last x0).length : Int) < (8 : Int))) then some [⟨.int, (0 : Int)⟩] else (bif (okBin x0 (2 : Int)) then (bif (okP (binP x0 (2 : Int))) then (bif (decide ((w64 (((last x0).length : Int) * ((last x0).length : Int))) ≤ (w64 ((8 : Int) * (powerP (binP x0 (2 : Int))))))) then some [⟨.int, (2 : Int)⟩] else (bif (okBin x0 (1 : Int)) then (bif (okP (binP x0 (1 : Int))) then (bif (decide ((w64 (((last x0).length : Int) * ((last x0).length : Int))) ≤ (w64 ((16 : Int) * (powerP (binP x0 (1 : Int))))))) then some [⟨.int, (4 : Int)⟩] else some [⟨.int, (0 : Int)⟩]) else none) else none)) else none) else none)) else none
theorem rbeat_e (G : Nat → ASt E → Option (List (TV E))) (x0 : List Bool) : runE rbeat_O rbeat_H G Try.f17 [⟨.l_bool, x0⟩] = rbeat_t G x0 := by kernel_rfl
theorem rbeat_f : Try.prog.funcs[17]? = some Try.f17 := by kernel_rfl
theorem rbeat_n : (Try.f17.name == "runtime.NumGoroutine") = false := by kernel_rfl
theorem rbeat_b : Try.f17.body.isNone = false := by kernel_rfl
theorem rbeat_hO : OracleOk E rbeat_O := orac_ok (.cons rbin_ok (.cons rlast_ok (.cons rpower_ok .nil))) .nil
theorem rbeat_ok_of (h : ∀ (x0 : List Bool), small x0 = true → rbeat_t (Gr E Try.f17 [⟨.int, beat x0⟩]) x0 = some [⟨.int, beat x0⟩]) : FnOk E rbeat_id rbeat_W := fn1_ok rbeat_hO mix rbeat_f rbeat_n rbeat_b (fun x0 hk => (rbeat_e _ x0).trans (h x0 hk))
theorem okBin_of {h : List Bool} (hk : small h = true) (k : Int) (h1 : 0 ≤ k) (h2 : k ≤ 3) : okBin h k = true := by
  simp only [okBin, hk, Bool.true_and, Bool.and_eq_true, decide_eq_true_eq]
  exact ⟨h1, h2⟩
theorem rbeat_ok : FnOk E rbeat_id rbeat_W := rbeat_ok_of fun h hk => by
  have p2 := powerV_bd h 2
  have p1 := powerV_bd h 1
  have hl := len2 h
  simp only [rbeat_t, hk, okBin_of hk 2 (by decide) (by decide), okBin_of hk 1 (by decide) (by decide), okP_bin, powerP_bin, beat, Bool.cond_eq_ite, ↓reduceIte]
  simp only [decide_eq_true_eq]
  exact beat_tree (last h).length _ _ _ hl p2.2 p1.2

/-- How many are bad at places that are j, four by four. -/
def cnt (j : Nat) : Nat → List Bool → Int
  | _, [] => 0
  | n, b :: t => (if b = true ∧ n % 4 = j then 1 else 0) + cnt j (n + 1) t
theorem cnt_bd (j : Nat) : ∀ (l : List Bool) (n : Nat), 0 ≤ cnt j n l ∧ cnt j n l ≤ l.length
  | [], n => by simp [cnt]
  | b :: t, n => by
    have := cnt_bd j t (n + 1)
    simp only [cnt, List.length_cons]
    split <;> omega
theorem cnt_skip (j : Nat) (l : List Bool) (n : Nat) (h : n % 4 ≠ j) : cnt j n (l.drop n) = cnt j (n + 1) (l.drop (n + 1)) := by
  by_cases hn : n < l.length
  · rw [← List.getElem_cons_drop hn]
    simp [cnt, h]
  · rw [List.drop_eq_nil_of_le (by omega), List.drop_eq_nil_of_le (by omega)]
    rfl
theorem cnt_four (l : List Bool) (n : Nat) (hn : n < l.length) : cnt (n % 4) n (l.drop n) = (if l[n] = true then 1 else 0) + cnt ((n + 4) % 4) (n + 4) (l.drop (n + 4)) := by
  rw [← List.getElem_cons_drop hn]
  simp only [cnt, and_true]
  rw [cnt_skip _ l (n + 1) (by omega), cnt_skip _ l (n + 1 + 1) (by omega), cnt_skip _ l (n + 1 + 1 + 1) (by omega), show (n + 4) % 4 = n % 4 from by omega]
def fourth (h : List Bool) (k : Int) : Int := cnt k.toNat k.toNat ((last h).drop k.toNat)
noncomputable def rfourth_W : FnW E := fn2 (E := E) .l_bool .int .int okBin fourth
def rfourth_id : FuncId := 21
noncomputable def rfourth_O : Oracle E := orac [(35, rlast_W)] []
noncomputable def rfourth_H : Hint E := Hint.mk [(0, [0, 5, 6])] [] []
noncomputable def rfourth_C0 (v0 : List Bool) (v1 : Int) (v2 : Int) : ASt E := ASt.mk 23 [(0, .d (.slice .bool v0)), (5, .d (.int .i64 v1)), (6, .d (.int .i64 v2))] [] 0
noncomputable def rfourth_t (G : Nat → ASt E → Option (List (TV E))) (x0 : List Bool) (x1 : Int) : Option (List (TV E)) :=
  bif (small x0) then G 0 (rfourth_C0 (last x0) (0 : Int) x1) else none
theorem rfourth_e (G : Nat → ASt E → Option (List (TV E))) (x0 : List Bool) (x1 : Int) : runE rfourth_O rfourth_H G Try.f21 [⟨.l_bool, x0⟩, ⟨.int, x1⟩] = rfourth_t G x0 x1 := by kernel_rfl
noncomputable def rfourth_t0 (G : Nat → ASt E → Option (List (TV E))) (v0 : List Bool) (v1 : Int) (v2 : Int) : Option (List (TV E)) :=
  bif (decide (v2 < (v0.length : Int))) then (bif (decide ((0 : Int) ≤ v2) && decide (v2 < (v0.length : Int))) then (bif (List.getD v0 (Int.toNat v2) (dflt .bool)) then G 0 (rfourth_C0 v0 (w64 (v1 + (1 : Int))) (w64 (v2 + (4 : Int)))) else G 0 (rfourth_C0 v0 v1 (w64 (v2 + (4 : Int))))) else none) else some [⟨.int, v1⟩]
theorem rfourth_l0 (G : Nat → ASt E → Option (List (TV E))) (v0 : List Bool) (v1 : Int) (v2 : Int) : runL rfourth_O rfourth_H G Try.f21 0 (rfourth_C0 v0 v1 v2) = rfourth_t0 G v0 v1 v2 := by kernel_rfl
theorem rfourth_f : Try.prog.funcs[21]? = some Try.f21 := by kernel_rfl
theorem rfourth_n : (Try.f21.name == "runtime.NumGoroutine") = false := by kernel_rfl
theorem rfourth_b : Try.f21.body.isNone = false := by kernel_rfl
theorem rfourth_hO : OracleOk E rfourth_O := orac_ok (.cons rlast_ok .nil) .nil
theorem rfourth_s0 {res : List (TV E)} {v0 : List Bool} {v1 : Int} {v2 : Int} (h : rfourth_t0 (Gr E Try.f21 res) v0 v1 v2 = some res) : Ev E Try.f21 res 0 (rfourth_C0 v0 v1 v2) := Ev.step rfourth_hO mix ((rfourth_l0 _ v0 v1 v2).trans h)
theorem rfourth_ok_of (h : ∀ (x0 : List Bool) (x1 : Int), okBin x0 x1 = true → rfourth_t (Gr E Try.f21 [⟨.int, fourth x0 x1⟩]) x0 x1 = some [⟨.int, fourth x0 x1⟩]) : FnOk E rfourth_id rfourth_W := fn2_ok rfourth_hO mix rfourth_f rfourth_n rfourth_b (fun x0 x1 hk => (rfourth_e _ x0 x1).trans (h x0 x1 hk))
theorem rfourth_loop (l : List Bool) (hl : l.length ≤ 256) : ∀ (m n : Nat) (out : Int), l.length - n ≤ m → n ≤ l.length + 4 → 0 ≤ out → out ≤ n →
    Ev E Try.f21 [⟨.int, out + cnt (n % 4) n (l.drop n)⟩] 0 (rfourth_C0 l out n) := by
  intro m
  induction m with
  | zero =>
    intro n out h1 h2 h3 h4
    refine rfourth_s0 ?_
    have e : l.drop n = [] := List.drop_eq_nil_of_le (by omega)
    simp only [rfourth_t0, Bool.cond_eq_ite, decide_eq_true_eq]
    rw [if_neg (by omega), e]
    simp [cnt]
  | succ m ih =>
    intro n out h1 h2 h3 h4
    refine rfourth_s0 ?_
    by_cases hn : n < l.length
    · have hg : List.getD l (Int.toNat (n : Int)) (dflt .bool) = l[n] := by rw [Int.toNat_natCast, List.getD, List.getElem?_eq_getElem hn]; rfl
      simp only [rfourth_t0, hg]
      rw [show decide ((n : Int) < (l.length : Int)) = true from by simp only [decide_eq_true_eq]; omega, show decide ((0 : Int) ≤ (n : Int)) = true from by simp only [decide_eq_true_eq]; omega]
      simp only [Bool.and_self, cond_true]
      rw [w64_id (n := (n : Int) + 4) (by omega) (by omega), w64_id (n := out + 1) (by omega) (by omega), cnt_four l n hn]
      cases hb : l[n] with
      | false =>
        simp only [cond_false, Bool.false_eq_true, if_false, Int.zero_add]
        exact Gr_of (ih (n + 4) out (by omega) (by omega) h3 (by omega))
      | true =>
        simp only [cond_true, if_true, ← Int.add_assoc]
        exact Gr_of (ih (n + 4) (out + 1) (by omega) (by omega) (by omega) (by omega))
    · have e : l.drop n = [] := List.drop_eq_nil_of_le (by omega)
      simp only [rfourth_t0, Bool.cond_eq_ite, decide_eq_true_eq]
      rw [if_neg (by omega), e]
      simp [cnt]
theorem rfourth_ok : FnOk E rfourth_id rfourth_W := rfourth_ok_of fun h k hk => by
  simp only [okBin, Bool.and_eq_true, decide_eq_true_eq] at hk
  simp only [rfourth_t, hk.1, cond_true]
  have hk2 := hk.2
  have e : (k.toNat : Int) = k := by omega
  have h := Gr_of (rfourth_loop (last h) (last_len h) _ k.toNat 0 (Nat.le_refl _) (by omega) (by decide) (by omega))
  rw [show k.toNat % 4 = k.toNat from by omega, Int.zero_add, e] at h
  exact h

/-! ### The laws -/
def isV (z : C) (p : Point) : Bool := z.1 == p.re && z.2 == p.im
def okIs (z : C) (p : Point) : Bool := okC z && okP p
noncomputable def is__W : FnW E := fn2 (E := E) .complex .ref29_Point .bool okIs isV
def is__id : FuncId := 12
noncomputable def is__O : Oracle E := orac [] []
noncomputable def is__H : Hint E := Hint.mk [] [] []
noncomputable def is__t (_G : Nat → ASt E → Option (List (TV E))) (x0 : Int × Int) (x1 : Point) : Option (List (TV E)) :=
  bif (fltOk x0.1 && fltOk x1.re) then (bif ((fltOk x0.2 && fltOk x1.im) || !(x0.1 == x1.re)) then some [⟨.bool, (bif (x0.1 == x1.re) then (x0.2 == x1.im) else false)⟩] else none) else none
theorem is__e (G : Nat → ASt E → Option (List (TV E))) (x0 : Int × Int) (x1 : Point) : runE is__O is__H G Try.f12 [⟨.complex, x0⟩, ⟨.ref29_Point, x1⟩] = is__t G x0 x1 := by kernel_rfl
theorem is__f : Try.prog.funcs[12]? = some Try.f12 := by kernel_rfl
theorem is__n : (Try.f12.name == "runtime.NumGoroutine") = false := by kernel_rfl
theorem is__b : Try.f12.body.isNone = false := by kernel_rfl
theorem is__hO : OracleOk E is__O := orac_ok .nil .nil
theorem is__ok_of (h : ∀ (x0 : Int × Int) (x1 : Point), okIs x0 x1 = true → is__t (Gr E Try.f12 [⟨.bool, isV x0 x1⟩]) x0 x1 = some [⟨.bool, isV x0 x1⟩]) : FnOk E is__id is__W := fn2_ok is__hO mix is__f is__n is__b (fun x0 x1 hk => (is__e _ x0 x1).trans (h x0 x1 hk))
theorem okP_flt {p : Point} (h : okP p = true) : fltOk p.re = true ∧ fltOk p.im = true := by
  simp only [okP, Bool.and_eq_true, inR_iff] at h
  exact ⟨fltOk_of (by omega) (by omega), fltOk_of (by omega) (by omega)⟩
theorem is__ok : FnOk E is__id is__W := is__ok_of fun z p hk => by
  simp only [okIs, okC, Bool.and_eq_true] at hk
  obtain ⟨⟨h1, h2⟩, h3⟩ := hk
  obtain ⟨h4, h5⟩ := okP_flt h3
  simp only [is__t, h1, h2, h4, h5, Bool.and_self, cond_true, Bool.true_or, isV]
  cases z.1 == p.re <;> rfl
noncomputable def awake_W : FnW E := fn0 (E := E) .bool true true
def awake_id : FuncId := 10
noncomputable def awake_O : Oracle E := orac [(18, wbad_W), (16, wbeat_W), (11, wbins_W), (19, wturn_W)] []
noncomputable def awake_H : Hint E := Hint.mk [] [] []
noncomputable def awake_t (_G : Nat → ASt E → Option (List (TV E)))  : Option (List (TV E)) :=
  bif (small ([false, true, false, true, false, true, false, true] : List Bool)) then (bif ((fltOk (((bins ([false, true, false, true, false, true, false, true] : List Bool)).e0).1) && fltOk (4 : Int) && (fltOk (((bins ([false, true, false, true, false, true, false, true] : List Bool)).e0).2) && fltOk (0 : Int))) && ((fltOk (((bins ([false, true, false, true, false, true, false, true] : List Bool)).e1).1) && fltOk (0 : Int) && (fltOk (((bins ([false, true, false, true, false, true, false, true] : List Bool)).e1).2) && fltOk (0 : Int))) && ((fltOk (((bins ([false, true, false, true, false, true, false, true] : List Bool)).e2).1) && fltOk (-4 : Int) && (fltOk (((bins ([false, true, false, true, false, true, false, true] : List Bool)).e2).2) && fltOk (0 : Int))) && ((fltOk (((bins ([false, true, false, true, false, true, false, true] : List Bool)).e3).1) && fltOk (0 : Int) && (fltOk (((bins ([false, true, false, true, false, true, false, true] : List Bool)).e3).2) && fltOk (0 : Int))) && true)))) then (bif ((small ([false, true, false, true, false, true, false, true] : List Bool)) || !((((bins ([false, true, false, true, false, true, false, true] : List Bool)).e0).1 == (4 : Int) && ((bins ([false, true, false, true, false, true, false, true] : List Bool)).e0).2 == (0 : Int)) && ((((bins ([false, true, false, true, false, true, false, true] : List Bool)).e1).1 == (0 : Int) && ((bins ([false, true, false, true, false, true, false, true] : List Bool)).e1).2 == (0 : Int)) && ((((bins ([false, true, false, true, false, true, false, true] : List Bool)).e2).1 == (-4 : Int) && ((bins ([false, true, false, true, false, true, false, true] : List Bool)).e2).2 == (0 : Int)) && ((((bins ([false, true, false, true, false, true, false, true] : List Bool)).e3).1 == (0 : Int) && ((bins ([false, true, false, true, false, true, false, true] : List Bool)).e3).2 == (0 : Int)) && true))))) then (bif (((fun z _ => okC z) (((1 : Int), (0 : Int)) : Int × Int) (1 : Int)) || !(bif ((((bins ([false, true, false, true, false, true, false, true] : List Bool)).e0).1 == (4 : Int) && ((bins ([false, true, false, true, false, true, false, true] : List Bool)).e0).2 == (0 : Int)) && ((((bins ([false, true, false, true, false, true, false, true] : List Bool)).e1).1 == (0 : Int) && ((bins ([false, true, false, true, false, true, false, true] : List Bool)).e1).2 == (0 : Int)) && ((((bins ([false, true, false, true, false, true, false, true] : List Bool)).e2).1 == (-4 : Int) && ((bins ([false, true, false, true, false, true, false, true] : List Bool)).e2).2 == (0 : Int)) && ((((bins ([false, true, false, true, false, true, false, true] : List Bool)).e3).1 == (0 : Int) && ((bins ([false, true, false, true, false, true, false, true] : List Bool)).e3).2 == (0 : Int)) && true)))) then ((beat ([false, true, false, true, false, true, false, true] : List Bool)) == (2 : Int)) else false)) then (bif ((fltOk ((turnZ (((1 : Int), (0 : Int)) : Int × Int) (1 : Int)).1) && fltOk (0 : Int) && (fltOk ((turnZ (((1 : Int), (0 : Int)) : Int × Int) (1 : Int)).2) && fltOk (1 : Int))) || !(bif ((((bins ([false, true, false, true, false, true, false, true] : List Bool)).e0).1 == (4 : Int) && ((bins ([false, true, false, true, false, true, false, true] : List Bool)).e0).2 == (0 : Int)) && ((((bins ([false, true, false, true, false, true, false, true] : List Bool)).e1).1 == (0 : Int) && ((bins ([false, true, false, true, false, true, false, true] : List Bool)).e1).2 == (0 : Int)) && ((((bins ([false, true, false, true, false, true, false, true] : List Bool)).e2).1 == (-4 : Int) && ((bins ([false, true, false, true, false, true, false, true] : List Bool)).e2).2 == (0 : Int)) && ((((bins ([false, true, false, true, false, true, false, true] : List Bool)).e3).1 == (0 : Int) && ((bins ([false, true, false, true, false, true, false, true] : List Bool)).e3).2 == (0 : Int)) && true)))) then ((beat ([false, true, false, true, false, true, false, true] : List Bool)) == (2 : Int)) else false)) then (bif ((small ([false, true, false, true, false, true, false, true] : List Bool)) || !(bif (bif ((((bins ([false, true, false, true, false, true, false, true] : List Bool)).e0).1 == (4 : Int) && ((bins ([false, true, false, true, false, true, false, true] : List Bool)).e0).2 == (0 : Int)) && ((((bins ([false, true, false, true, false, true, false, true] : List Bool)).e1).1 == (0 : Int) && ((bins ([false, true, false, true, false, true, false, true] : List Bool)).e1).2 == (0 : Int)) && ((((bins ([false, true, false, true, false, true, false, true] : List Bool)).e2).1 == (-4 : Int) && ((bins ([false, true, false, true, false, true, false, true] : List Bool)).e2).2 == (0 : Int)) && ((((bins ([false, true, false, true, false, true, false, true] : List Bool)).e3).1 == (0 : Int) && ((bins ([false, true, false, true, false, true, false, true] : List Bool)).e3).2 == (0 : Int)) && true)))) then ((beat ([false, true, false, true, false, true, false, true] : List Bool)) == (2 : Int)) else false) then ((turnZ (((1 : Int), (0 : Int)) : Int × Int) (1 : Int)).1 == (0 : Int) && (turnZ (((1 : Int), (0 : Int)) : Int × Int) (1 : Int)).2 == (1 : Int)) else false)) then some [⟨.bool, (bif (bif (bif ((((bins ([false, true, false, true, false, true, false, true] : List Bool)).e0).1 == (4 : Int) && ((bins ([false, true, false, true, false, true, false, true] : List Bool)).e0).2 == (0 : Int)) && ((((bins ([false, true, false, true, false, true, false, true] : List Bool)).e1).1 == (0 : Int) && ((bins ([false, true, false, true, false, true, false, true] : List Bool)).e1).2 == (0 : Int)) && ((((bins ([false, true, false, true, false, true, false, true] : List Bool)).e2).1 == (-4 : Int) && ((bins ([false, true, false, true, false, true, false, true] : List Bool)).e2).2 == (0 : Int)) && ((((bins ([false, true, false, true, false, true, false, true] : List Bool)).e3).1 == (0 : Int) && ((bins ([false, true, false, true, false, true, false, true] : List Bool)).e3).2 == (0 : Int)) && true)))) then ((beat ([false, true, false, true, false, true, false, true] : List Bool)) == (2 : Int)) else false) then ((turnZ (((1 : Int), (0 : Int)) : Int × Int) (1 : Int)).1 == (0 : Int) && (turnZ (((1 : Int), (0 : Int)) : Int × Int) (1 : Int)).2 == (1 : Int)) else false) then ((bad ([false, true, false, true, false, true, false, true] : List Bool)) == (4 : Int)) else false)⟩] else none) else none) else none) else none) else none) else none
theorem awake_e (G : Nat → ASt E → Option (List (TV E)))  : runE awake_O awake_H G Try.f10 [] = awake_t G  := by kernel_rfl
theorem awake_f : Try.prog.funcs[10]? = some Try.f10 := by kernel_rfl
theorem awake_n : (Try.f10.name == "runtime.NumGoroutine") = false := by kernel_rfl
theorem awake_b : Try.f10.body.isNone = false := by kernel_rfl
theorem awake_hO : OracleOk E awake_O := orac_ok (.cons wbad_ok (.cons wbeat_ok (.cons wbins_ok (.cons wturn_ok .nil)))) .nil
theorem awake_ok_of (h : awake_t (Gr E Try.f10 [⟨.bool, true ⟩])  = some [⟨.bool, true ⟩]) : FnOk E awake_id awake_W := fn0_ok awake_hO mix awake_f awake_n awake_b (fun _ => (awake_e _).trans h)
theorem awake_ok : FnOk E awake_id awake_W := awake_ok_of (by
  have e : bins [false, true, false, true, false, true, false, true] = ⟨(4, 0), (0, 0), (-4, 0), (0, 0)⟩ := by rfl
  simp only [awake_t, e]
  rfl)
noncomputable def lbins_W : FnW E := fn1 (E := E) .l_bool .bool (fun _ => true) (fun _ => true)
def lbins_id : FuncId := 3
noncomputable def lbins_O : Oracle E := orac [(10, awake_W), (12, is__W), (17, rbeat_W), (13, rbin_W), (15, rpower_W), (18, wbad_W), (16, wbeat_W), (11, wbins_W), (14, wpower_W)] []
noncomputable def lbins_H : Hint E := Hint.mk [(0, [0, 3, 4])] [] []
noncomputable def lbins_C0_0 (v0 : List Bool) (v1 : Int) (v2 : Int) (v3 : Int) (v4 : Int) (v5 : Int) (v6 : Int) (v7 : Int) (v8 : Int) : ASt E := ASt.mk 50 [(0, .d (.slice .bool v0)), (3, .ptr 0 0), (4, .d (.int .i64 (0 : Int)))] [(0, .box [.d (.cpx v1 v2), .d (.cpx v3 v4), .d (.cpx v5 v6), .d (.cpx v7 v8)])] 1
noncomputable def lbins_C0_1 (v0 : List Bool) (v1 : Int) (v2 : Int) (v3 : Int) (v4 : Int) (v5 : Int) (v6 : Int) (v7 : Int) (v8 : Int) : ASt E := ASt.mk 50 [(0, .d (.slice .bool v0)), (3, .ptr 0 0), (4, .d (.int .i64 (1 : Int)))] [(0, .box [.d (.cpx v1 v2), .d (.cpx v3 v4), .d (.cpx v5 v6), .d (.cpx v7 v8)])] 1
noncomputable def lbins_C0_2 (v0 : List Bool) (v1 : Int) (v2 : Int) (v3 : Int) (v4 : Int) (v5 : Int) (v6 : Int) (v7 : Int) (v8 : Int) : ASt E := ASt.mk 50 [(0, .d (.slice .bool v0)), (3, .ptr 0 0), (4, .d (.int .i64 (2 : Int)))] [(0, .box [.d (.cpx v1 v2), .d (.cpx v3 v4), .d (.cpx v5 v6), .d (.cpx v7 v8)])] 1
noncomputable def lbins_C0_3 (v0 : List Bool) (v1 : Int) (v2 : Int) (v3 : Int) (v4 : Int) (v5 : Int) (v6 : Int) (v7 : Int) (v8 : Int) : ASt E := ASt.mk 50 [(0, .d (.slice .bool v0)), (3, .ptr 0 0), (4, .d (.int .i64 (3 : Int)))] [(0, .box [.d (.cpx v1 v2), .d (.cpx v3 v4), .d (.cpx v5 v6), .d (.cpx v7 v8)])] 1
noncomputable def lbins_C0_4 (v0 : List Bool) (v1 : Int) (v2 : Int) (v3 : Int) (v4 : Int) (v5 : Int) (v6 : Int) (v7 : Int) (v8 : Int) : ASt E := ASt.mk 50 [(0, .d (.slice .bool v0)), (3, .ptr 0 0), (4, .d (.int .i64 (4 : Int)))] [(0, .box [.d (.cpx v1 v2), .d (.cpx v3 v4), .d (.cpx v5 v6), .d (.cpx v7 v8)])] 1
noncomputable def lbins_t (G : Nat → ASt E → Option (List (TV E))) (x0 : List Bool) : Option (List (TV E)) :=
  bif (decide ((600 : Int) < (x0.length : Int))) then some [⟨.bool, true⟩] else (bif (small x0) then G 0 (lbins_C0_0 x0 (((bins x0).e0).1) (((bins x0).e0).2) (((bins x0).e1).1) (((bins x0).e1).2) (((bins x0).e2).1) (((bins x0).e2).2) (((bins x0).e3).1) (((bins x0).e3).2)) else none)
theorem lbins_e (G : Nat → ASt E → Option (List (TV E))) (x0 : List Bool) : runE lbins_O lbins_H G Try.f3 [⟨.l_bool, x0⟩] = lbins_t G x0 := by kernel_rfl
noncomputable def lbins_t0_0 (G : Nat → ASt E → Option (List (TV E))) (v0 : List Bool) (v1 : Int) (v2 : Int) (v3 : Int) (v4 : Int) (v5 : Int) (v6 : Int) (v7 : Int) (v8 : Int) : Option (List (TV E)) :=
  bif (okBin v0 (0 : Int)) then (bif (okIs ((v1, v2) : Int × Int) (binP v0 (0 : Int))) then (bif ((okC ((v1, v2) : Int × Int)) || !(!(!(isV ((v1, v2) : Int × Int) (binP v0 (0 : Int)))))) then (bif ((okBin v0 (0 : Int)) || !(!(!(isV ((v1, v2) : Int × Int) (binP v0 (0 : Int)))))) then (bif ((okP (binP v0 (0 : Int))) || !(!(!(isV ((v1, v2) : Int × Int) (binP v0 (0 : Int)))))) then (bif (bif (!(isV ((v1, v2) : Int × Int) (binP v0 (0 : Int)))) then true else ((powerV ((v1, v2) : Int × Int)) != (powerP (binP v0 (0 : Int))))) then some [⟨.bool, false⟩] else G 0 (lbins_C0_1 v0 v1 v2 v3 v4 v5 v6 v7 v8)) else none) else none) else none) else none) else none
theorem lbins_l0_0 (G : Nat → ASt E → Option (List (TV E))) (v0 : List Bool) (v1 : Int) (v2 : Int) (v3 : Int) (v4 : Int) (v5 : Int) (v6 : Int) (v7 : Int) (v8 : Int) : runL lbins_O lbins_H G Try.f3 0 (lbins_C0_0 v0 v1 v2 v3 v4 v5 v6 v7 v8) = lbins_t0_0 G v0 v1 v2 v3 v4 v5 v6 v7 v8 := by kernel_rfl
noncomputable def lbins_t0_1 (G : Nat → ASt E → Option (List (TV E))) (v0 : List Bool) (v1 : Int) (v2 : Int) (v3 : Int) (v4 : Int) (v5 : Int) (v6 : Int) (v7 : Int) (v8 : Int) : Option (List (TV E)) :=
  bif (okBin v0 (1 : Int)) then (bif (okIs ((v3, v4) : Int × Int) (binP v0 (1 : Int))) then (bif ((okC ((v3, v4) : Int × Int)) || !(!(!(isV ((v3, v4) : Int × Int) (binP v0 (1 : Int)))))) then (bif ((okBin v0 (1 : Int)) || !(!(!(isV ((v3, v4) : Int × Int) (binP v0 (1 : Int)))))) then (bif ((okP (binP v0 (1 : Int))) || !(!(!(isV ((v3, v4) : Int × Int) (binP v0 (1 : Int)))))) then (bif (bif (!(isV ((v3, v4) : Int × Int) (binP v0 (1 : Int)))) then true else ((powerV ((v3, v4) : Int × Int)) != (powerP (binP v0 (1 : Int))))) then some [⟨.bool, false⟩] else G 0 (lbins_C0_2 v0 v1 v2 v3 v4 v5 v6 v7 v8)) else none) else none) else none) else none) else none
theorem lbins_l0_1 (G : Nat → ASt E → Option (List (TV E))) (v0 : List Bool) (v1 : Int) (v2 : Int) (v3 : Int) (v4 : Int) (v5 : Int) (v6 : Int) (v7 : Int) (v8 : Int) : runL lbins_O lbins_H G Try.f3 0 (lbins_C0_1 v0 v1 v2 v3 v4 v5 v6 v7 v8) = lbins_t0_1 G v0 v1 v2 v3 v4 v5 v6 v7 v8 := by kernel_rfl
noncomputable def lbins_t0_2 (G : Nat → ASt E → Option (List (TV E))) (v0 : List Bool) (v1 : Int) (v2 : Int) (v3 : Int) (v4 : Int) (v5 : Int) (v6 : Int) (v7 : Int) (v8 : Int) : Option (List (TV E)) :=
  bif (okBin v0 (2 : Int)) then (bif (okIs ((v5, v6) : Int × Int) (binP v0 (2 : Int))) then (bif ((okC ((v5, v6) : Int × Int)) || !(!(!(isV ((v5, v6) : Int × Int) (binP v0 (2 : Int)))))) then (bif ((okBin v0 (2 : Int)) || !(!(!(isV ((v5, v6) : Int × Int) (binP v0 (2 : Int)))))) then (bif ((okP (binP v0 (2 : Int))) || !(!(!(isV ((v5, v6) : Int × Int) (binP v0 (2 : Int)))))) then (bif (bif (!(isV ((v5, v6) : Int × Int) (binP v0 (2 : Int)))) then true else ((powerV ((v5, v6) : Int × Int)) != (powerP (binP v0 (2 : Int))))) then some [⟨.bool, false⟩] else G 0 (lbins_C0_3 v0 v1 v2 v3 v4 v5 v6 v7 v8)) else none) else none) else none) else none) else none
theorem lbins_l0_2 (G : Nat → ASt E → Option (List (TV E))) (v0 : List Bool) (v1 : Int) (v2 : Int) (v3 : Int) (v4 : Int) (v5 : Int) (v6 : Int) (v7 : Int) (v8 : Int) : runL lbins_O lbins_H G Try.f3 0 (lbins_C0_2 v0 v1 v2 v3 v4 v5 v6 v7 v8) = lbins_t0_2 G v0 v1 v2 v3 v4 v5 v6 v7 v8 := by kernel_rfl
noncomputable def lbins_t0_3 (G : Nat → ASt E → Option (List (TV E))) (v0 : List Bool) (v1 : Int) (v2 : Int) (v3 : Int) (v4 : Int) (v5 : Int) (v6 : Int) (v7 : Int) (v8 : Int) : Option (List (TV E)) :=
  bif (okBin v0 (3 : Int)) then (bif (okIs ((v7, v8) : Int × Int) (binP v0 (3 : Int))) then (bif ((okC ((v7, v8) : Int × Int)) || !(!(!(isV ((v7, v8) : Int × Int) (binP v0 (3 : Int)))))) then (bif ((okBin v0 (3 : Int)) || !(!(!(isV ((v7, v8) : Int × Int) (binP v0 (3 : Int)))))) then (bif ((okP (binP v0 (3 : Int))) || !(!(!(isV ((v7, v8) : Int × Int) (binP v0 (3 : Int)))))) then (bif (bif (!(isV ((v7, v8) : Int × Int) (binP v0 (3 : Int)))) then true else ((powerV ((v7, v8) : Int × Int)) != (powerP (binP v0 (3 : Int))))) then some [⟨.bool, false⟩] else G 0 (lbins_C0_4 v0 v1 v2 v3 v4 v5 v6 v7 v8)) else none) else none) else none) else none) else none
theorem lbins_l0_3 (G : Nat → ASt E → Option (List (TV E))) (v0 : List Bool) (v1 : Int) (v2 : Int) (v3 : Int) (v4 : Int) (v5 : Int) (v6 : Int) (v7 : Int) (v8 : Int) : runL lbins_O lbins_H G Try.f3 0 (lbins_C0_3 v0 v1 v2 v3 v4 v5 v6 v7 v8) = lbins_t0_3 G v0 v1 v2 v3 v4 v5 v6 v7 v8 := by kernel_rfl
noncomputable def lbins_t0_4 (_G : Nat → ASt E → Option (List (TV E))) (v0 : List Bool) (_v1 : Int) (_v2 : Int) (_v3 : Int) (_v4 : Int) (_v5 : Int) (_v6 : Int) (_v7 : Int) (_v8 : Int) : Option (List (TV E)) :=
  bif (small v0) then (bif (small v0) then (bif ((small v0) || !((beat v0) == (beat v0))) then (bif ((okBin v0 (0 : Int)) || !((beat v0) == (beat v0))) then some [⟨.bool, (bif (bif ((beat v0) == (beat v0)) then ((bad v0) == (binP v0 (0 : Int)).re) else false) then true else false)⟩] else none) else none) else none) else none
theorem lbins_l0_4 (G : Nat → ASt E → Option (List (TV E))) (v0 : List Bool) (v1 : Int) (v2 : Int) (v3 : Int) (v4 : Int) (v5 : Int) (v6 : Int) (v7 : Int) (v8 : Int) : runL lbins_O lbins_H G Try.f3 0 (lbins_C0_4 v0 v1 v2 v3 v4 v5 v6 v7 v8) = lbins_t0_4 G v0 v1 v2 v3 v4 v5 v6 v7 v8 := by kernel_rfl
theorem lbins_f : Try.prog.funcs[3]? = some Try.f3 := by kernel_rfl
theorem lbins_n : (Try.f3.name == "runtime.NumGoroutine") = false := by kernel_rfl
theorem lbins_b : Try.f3.body.isNone = false := by kernel_rfl
theorem lbins_hO : OracleOk E lbins_O := orac_ok (.cons awake_ok (.cons is__ok (.cons rbeat_ok (.cons rbin_ok (.cons rpower_ok (.cons wbad_ok (.cons wbeat_ok (.cons wbins_ok (.cons wpower_ok .nil))))))))) .nil
theorem lbins_s0_0 {res : List (TV E)} {v0 : List Bool} {v1 : Int} {v2 : Int} {v3 : Int} {v4 : Int} {v5 : Int} {v6 : Int} {v7 : Int} {v8 : Int} (h : lbins_t0_0 (Gr E Try.f3 res) v0 v1 v2 v3 v4 v5 v6 v7 v8 = some res) : Ev E Try.f3 res 0 (lbins_C0_0 v0 v1 v2 v3 v4 v5 v6 v7 v8) := Ev.step lbins_hO mix ((lbins_l0_0 _ v0 v1 v2 v3 v4 v5 v6 v7 v8).trans h)
theorem lbins_s0_1 {res : List (TV E)} {v0 : List Bool} {v1 : Int} {v2 : Int} {v3 : Int} {v4 : Int} {v5 : Int} {v6 : Int} {v7 : Int} {v8 : Int} (h : lbins_t0_1 (Gr E Try.f3 res) v0 v1 v2 v3 v4 v5 v6 v7 v8 = some res) : Ev E Try.f3 res 0 (lbins_C0_1 v0 v1 v2 v3 v4 v5 v6 v7 v8) := Ev.step lbins_hO mix ((lbins_l0_1 _ v0 v1 v2 v3 v4 v5 v6 v7 v8).trans h)
theorem lbins_s0_2 {res : List (TV E)} {v0 : List Bool} {v1 : Int} {v2 : Int} {v3 : Int} {v4 : Int} {v5 : Int} {v6 : Int} {v7 : Int} {v8 : Int} (h : lbins_t0_2 (Gr E Try.f3 res) v0 v1 v2 v3 v4 v5 v6 v7 v8 = some res) : Ev E Try.f3 res 0 (lbins_C0_2 v0 v1 v2 v3 v4 v5 v6 v7 v8) := Ev.step lbins_hO mix ((lbins_l0_2 _ v0 v1 v2 v3 v4 v5 v6 v7 v8).trans h)
theorem lbins_s0_3 {res : List (TV E)} {v0 : List Bool} {v1 : Int} {v2 : Int} {v3 : Int} {v4 : Int} {v5 : Int} {v6 : Int} {v7 : Int} {v8 : Int} (h : lbins_t0_3 (Gr E Try.f3 res) v0 v1 v2 v3 v4 v5 v6 v7 v8 = some res) : Ev E Try.f3 res 0 (lbins_C0_3 v0 v1 v2 v3 v4 v5 v6 v7 v8) := Ev.step lbins_hO mix ((lbins_l0_3 _ v0 v1 v2 v3 v4 v5 v6 v7 v8).trans h)
theorem lbins_s0_4 {res : List (TV E)} {v0 : List Bool} {v1 : Int} {v2 : Int} {v3 : Int} {v4 : Int} {v5 : Int} {v6 : Int} {v7 : Int} {v8 : Int} (h : lbins_t0_4 (Gr E Try.f3 res) v0 v1 v2 v3 v4 v5 v6 v7 v8 = some res) : Ev E Try.f3 res 0 (lbins_C0_4 v0 v1 v2 v3 v4 v5 v6 v7 v8) := Ev.step lbins_hO mix ((lbins_l0_4 _ v0 v1 v2 v3 v4 v5 v6 v7 v8).trans h)
theorem lbins_ok_of (h : ∀ (x0 : List Bool), lbins_t (Gr E Try.f3 [⟨.bool, (fun _ => true) x0⟩]) x0 = some [⟨.bool, (fun _ => true) x0⟩]) : FnOk E lbins_id lbins_W := fn1_ok lbins_hO mix lbins_f lbins_n lbins_b (fun x0 _ => (lbins_e _ x0).trans (h x0))
theorem isV_bin (h : List Bool) (k : Int) : isV (bin h k) (binP h k) = true := by simp [isV, binP, pt]
theorem okIs_bin (h : List Bool) (k : Int) : okIs (bin h k) (binP h k) = true := by simp [okIs, okC_bin, okP_bin]
theorem gt_true {a b : Int} (h : a < b) : decide (a < b) = true := by simpa using h
theorem gt_false {a b : Int} (h : ¬ a < b) : decide (a < b) = false := by simpa using h
theorem lbins_ok : FnOk E lbins_id lbins_W := lbins_ok_of fun h => by
  simp only [lbins_t]
  by_cases hl : 600 < h.length
  · rw [gt_true (by omega), cond_true]
  · rw [gt_false (by omega), cond_false]
    have hs : small h = true := by simp only [small, decide_eq_true_eq]; omega
    have k0 := okBin_of hs 0 (by decide) (by decide)
    have k1 := okBin_of hs 1 (by decide) (by decide)
    have k2 := okBin_of hs 2 (by decide) (by decide)
    have k3 := okBin_of hs 3 (by decide) (by decide)
    have e0 : bad h == (binP h 0).re := by simp [bad, binP, pt]
    rw [hs, cond_true]
    refine Gr_of (lbins_s0_0 ?_)
    simp only [lbins_t0_0, bins, Prod.eta, k0, okIs_bin, isV_bin, okC_bin, okP_bin, powerP_bin, cond_true, cond_false, Bool.not_true, Bool.not_false, Bool.true_or, bne_self_eq_false]
    refine Gr_of (lbins_s0_1 ?_)
    simp only [lbins_t0_1, Prod.eta, k1, okIs_bin, isV_bin, okC_bin, okP_bin, powerP_bin, cond_true, cond_false, Bool.not_true, Bool.not_false, Bool.true_or, bne_self_eq_false]
    refine Gr_of (lbins_s0_2 ?_)
    simp only [lbins_t0_2, Prod.eta, k2, okIs_bin, isV_bin, okC_bin, okP_bin, powerP_bin, cond_true, cond_false, Bool.not_true, Bool.not_false, Bool.true_or, bne_self_eq_false]
    refine Gr_of (lbins_s0_3 ?_)
    simp only [lbins_t0_3, Prod.eta, k3, okIs_bin, isV_bin, okC_bin, okP_bin, powerP_bin, cond_true, cond_false, Bool.not_true, Bool.not_false, Bool.true_or, bne_self_eq_false]
    refine Gr_of (lbins_s0_4 ?_)
    simp only [lbins_t0_4, hs, k0, e0, beq_self_eq_true, cond_true, Bool.true_or]

noncomputable def lturns_W : FnW E := fn3 (E := E) .int .int .int .bool (fun _ _ _ => true) (fun _ _ _ => true)
def lturns_id : FuncId := 4
noncomputable def lturns_O : Oracle E := orac [(10, awake_W), (12, is__W), (20, rturn_W), (14, wpower_W), (19, wturn_W)] []
noncomputable def lturns_H : Hint E := Hint.mk [] [] []
noncomputable def lturns_t (_G : Nat → ASt E → Option (List (TV E))) (x0 : Int) (x1 : Int) (x2 : Int) : Option (List (TV E)) :=
  bif (bif (bif (bif (decide (x0 < (-1048576 : Int))) then true else (decide ((1048576 : Int) < x0))) then true else (decide (x1 < (-1048576 : Int)))) then true else (decide ((1048576 : Int) < x1))) then some [⟨.bool, true⟩] else (bif ((fun z _ => okC z) ((x0, x1) : Int × Int) x2) then (bif ((fun p _ => okP p) (⟨x0, x1⟩ : Point) x2) then (bif (okIs (turnZ ((x0, x1) : Int × Int) x2) (turnP (⟨x0, x1⟩ : Point) x2)) then (bif ((okC (turnZ ((x0, x1) : Int × Int) x2)) || !(!(!(isV (turnZ ((x0, x1) : Int × Int) x2) (turnP (⟨x0, x1⟩ : Point) x2))))) then (bif ((okC ((x0, x1) : Int × Int)) || !(!(!(isV (turnZ ((x0, x1) : Int × Int) x2) (turnP (⟨x0, x1⟩ : Point) x2))))) then (bif ((okC ((x0, x1) : Int × Int)) || !(!(bif (!(isV (turnZ ((x0, x1) : Int × Int) x2) (turnP (⟨x0, x1⟩ : Point) x2))) then true else ((powerV (turnZ ((x0, x1) : Int × Int) x2)) != (powerV ((x0, x1) : Int × Int)))))) then (bif (bif (bif (!(isV (turnZ ((x0, x1) : Int × Int) x2) (turnP (⟨x0, x1⟩ : Point) x2))) then true else ((powerV (turnZ ((x0, x1) : Int × Int) x2)) != (powerV ((x0, x1) : Int × Int)))) then true else ((powerV ((x0, x1) : Int × Int)) != (w64 ((w64 (x0 * x0)) + (w64 (x1 * x1)))))) then some [⟨.bool, false⟩] else (bif ((fun z _ => okC z) ((x0, x1) : Int × Int) (1 : Int)) then (bif ((fun z _ => okC z) (turnZ ((x0, x1) : Int × Int) (1 : Int)) (1 : Int)) then (bif ((fun z _ => okC z) (turnZ (turnZ ((x0, x1) : Int × Int) (1 : Int)) (1 : Int)) (1 : Int)) then (bif ((fun z _ => okC z) (turnZ (turnZ (turnZ ((x0, x1) : Int × Int) (1 : Int)) (1 : Int)) (1 : Int)) (1 : Int)) then (bif (fltOk ((turnZ (turnZ (turnZ (turnZ ((x0, x1) : Int × Int) (1 : Int)) (1 : Int)) (1 : Int)) (1 : Int)).1) && fltOk x0 && (fltOk ((turnZ (turnZ (turnZ (turnZ ((x0, x1) : Int × Int) (1 : Int)) (1 : Int)) (1 : Int)) (1 : Int)).2) && fltOk x1)) then (bif ((!((4 : Int) == (0 : Int))) || !((turnZ (turnZ (turnZ (turnZ ((x0, x1) : Int × Int) (1 : Int)) (1 : Int)) (1 : Int)) (1 : Int)).1 == x0 && (turnZ (turnZ (turnZ (turnZ ((x0, x1) : Int × Int) (1 : Int)) (1 : Int)) (1 : Int)) (1 : Int)).2 == x1)) then (bif (((fun z _ => okC z) (turnZ ((x0, x1) : Int × Int) x2) (w64 ((4 : Int) - (Int.tmod x2 (4 : Int))))) || !((turnZ (turnZ (turnZ (turnZ ((x0, x1) : Int × Int) (1 : Int)) (1 : Int)) (1 : Int)) (1 : Int)).1 == x0 && (turnZ (turnZ (turnZ (turnZ ((x0, x1) : Int × Int) (1 : Int)) (1 : Int)) (1 : Int)) (1 : Int)).2 == x1)) then (bif ((fltOk ((turnZ (turnZ ((x0, x1) : Int × Int) x2) (w64 ((4 : Int) - (Int.tmod x2 (4 : Int))))).1) && fltOk x0 && (fltOk ((turnZ (turnZ ((x0, x1) : Int × Int) x2) (w64 ((4 : Int) - (Int.tmod x2 (4 : Int))))).2) && fltOk x1)) || !((turnZ (turnZ (turnZ (turnZ ((x0, x1) : Int × Int) (1 : Int)) (1 : Int)) (1 : Int)) (1 : Int)).1 == x0 && (turnZ (turnZ (turnZ (turnZ ((x0, x1) : Int × Int) (1 : Int)) (1 : Int)) (1 : Int)) (1 : Int)).2 == x1)) then some [⟨.bool, (bif (bif ((turnZ (turnZ (turnZ (turnZ ((x0, x1) : Int × Int) (1 : Int)) (1 : Int)) (1 : Int)) (1 : Int)).1 == x0 && (turnZ (turnZ (turnZ (turnZ ((x0, x1) : Int × Int) (1 : Int)) (1 : Int)) (1 : Int)) (1 : Int)).2 == x1) then ((turnZ (turnZ ((x0, x1) : Int × Int) x2) (w64 ((4 : Int) - (Int.tmod x2 (4 : Int))))).1 == x0 && (turnZ (turnZ ((x0, x1) : Int × Int) x2) (w64 ((4 : Int) - (Int.tmod x2 (4 : Int))))).2 == x1) else false) then true else false)⟩] else none) else none) else none) else none) else none) else none) else none) else none)) else none) else none) else none) else none) else none) else none)
theorem lturns_e (G : Nat → ASt E → Option (List (TV E))) (x0 : Int) (x1 : Int) (x2 : Int) : runE lturns_O lturns_H G Try.f4 [⟨.int, x0⟩, ⟨.int, x1⟩, ⟨.int, x2⟩] = lturns_t G x0 x1 x2 := by kernel_rfl
theorem lturns_f : Try.prog.funcs[4]? = some Try.f4 := by kernel_rfl
theorem lturns_n : (Try.f4.name == "runtime.NumGoroutine") = false := by kernel_rfl
theorem lturns_b : Try.f4.body.isNone = false := by kernel_rfl
theorem lturns_hO : OracleOk E lturns_O := orac_ok (.cons awake_ok (.cons is__ok (.cons rturn_ok (.cons wpower_ok (.cons wturn_ok .nil))))) .nil
theorem lturns_ok_of (h : ∀ (x0 : Int) (x1 : Int) (x2 : Int), lturns_t (Gr E Try.f4 [⟨.bool, (fun _ _ _ => true) x0 x1 x2⟩]) x0 x1 x2 = some [⟨.bool, (fun _ _ _ => true) x0 x1 x2⟩]) : FnOk E lturns_id lturns_W := fn3_ok lturns_hO mix lturns_f lturns_n lturns_b (fun x0 x1 x2 _ => (lturns_e _ x0 x1 x2).trans (h x0 x1 x2))
theorem bd_turn {z : C} {m : Int} (n : Int) (h : bdC z m) : bdC (turnZ z n) m := by
  unfold bdC at *
  unfold turnZ
  split
  · simp only; omega
  · split
    · simp only; omega
    · split
      · simp only; omega
      · exact h
theorem bd_okC {z : C} {m : Int} (h : bdC z m) (hm : m ≤ 1048576) : okC z = true := by
  unfold bdC at h
  unfold okC
  rw [fltOk_of (by omega) (by omega), fltOk_of (by omega) (by omega)]
  rfl
theorem turnP_eq (z : C) (n : Int) : turnP (pt z) n = pt (turnZ z n) := by
  unfold turnP times rturnedV pt turnZ q4
  rcases m4 n with h | h | h | h <;> simp [h]
theorem powerV_eq {z : C} {m : Int} (h : bdC z m) (hm : m ≤ 1048576) : powerV z = z.1 * z.1 + z.2 * z.2 := by
  unfold bdC at h
  unfold powerV
  rw [if_pos (inC_iff.2 (by omega))]
theorem power_turn {z : C} {m : Int} (n : Int) (h : bdC z m) (hm : m ≤ 1048576) : powerV (turnZ z n) = powerV z := by
  rw [powerV_eq (bd_turn n h) hm, powerV_eq h hm]
  unfold turnZ
  rcases m4 n with h | h | h | h <;> simp [h] <;> grind
theorem turn_add (z : C) (n m : Int) : turnZ (turnZ z n) m = turnZ z (n + m) := by
  unfold turnZ
  rcases m4 n with h | h | h | h <;> rcases m4 m with g | g | g | g
  all_goals
    have e : (n + m) % 4 = (n % 4 + m % 4) % 4 := by omega
    rw [h, g] at e
    simp [h, g, e]
theorem turn_four (z : C) (n : Int) (h : n % 4 = 0) : turnZ z n = z := by simp [turnZ, h]
theorem okIs_of {z : C} {m : Int} (h : bdC z m) (hm : m ≤ 1048576) : okIs z (pt z) = true := by
  have := bd_okC h hm
  unfold bdC at h
  simp only [okIs, this, Bool.true_and, okP, pt, Bool.and_eq_true, inR_iff]
  omega
theorem isV_pt (z : C) : isV z (pt z) = true := by simp [isV, pt]
theorem bd_flt {z : C} {m : Int} (h : bdC z m) (hm : m ≤ 1048576) : fltOk z.1 = true ∧ fltOk z.2 = true := by
  have := bd_okC h hm
  simpa [okC] using this
theorem lturns_ok : FnOk E lturns_id lturns_W := lturns_ok_of fun a b n => by
  by_cases hr : (-1048576 ≤ a ∧ a ≤ 1048576) ∧ -1048576 ≤ b ∧ b ≤ 1048576
  · have hb : bdC (a, b) 1048576 := hr
    have hm : (1048576 : Int) ≤ 1048576 := Int.le_refl _
    have s1 := sq_bd a hr.1.1 hr.1.2
    have s2 := sq_bd b hr.2.1 hr.2.2
    have hp : (⟨a, b⟩ : Point) = pt (a, b) := rfl
    have hw : w64 (w64 (a * a) + w64 (b * b)) = powerV (a, b) := by
      rw [powerV_eq hb hm, w64_id (n := a * a) (by omega) (by omega), w64_id (n := b * b) (by omega) (by omega), w64_id (by omega) (by omega)]
    have hokP : okP (pt (a, b)) = true := by simp only [okP, pt, Bool.and_eq_true, inR_iff]; exact hr
    have h4 : turnZ (turnZ (turnZ (turnZ (a, b) 1) 1) 1) 1 = (a, b) := by
      rw [turn_add, turn_add, turn_add]
      exact turn_four _ _ (by decide)
    have hback : turnZ (turnZ (a, b) n) (w64 (4 - n.tmod 4)) = (a, b) := by
      have ht := tmod4 n
      rw [turn_add, w64_id (by omega) (by omega)]
      exact turn_four _ _ (by omega)
    have f0 := bd_flt hb hm
    simp only [lturns_t]
    rw [gt_false (by omega), gt_false (by omega), gt_false (by omega), gt_false (by omega)]
    simp only [cond_false, hp, hokP, turnP_eq, okIs_of (bd_turn n hb) hm, isV_pt, bd_okC (bd_turn n hb) hm, bd_okC hb hm, power_turn n hb hm, hw, h4, hback, bd_okC (bd_turn 1 hb) hm, bd_okC (bd_turn 1 (bd_turn 1 hb)) hm, bd_okC (bd_turn 1 (bd_turn 1 (bd_turn 1 hb))) hm,
      f0.1, f0.2, cond_true, Bool.not_true, Bool.not_false, Bool.true_or, bne_self_eq_false, beq_self_eq_true, Bool.and_self]
    rfl
  · simp only [lturns_t]
    have : (bif (bif (bif (decide (a < (-1048576 : Int))) then true else (decide ((1048576 : Int) < a))) then true else (decide (b < (-1048576 : Int)))) then true else (decide ((1048576 : Int) < b))) = true := by
      simp only [Bool.cond_true_left, Bool.or_eq_true, decide_eq_true_eq]
      omega
    rw [this, cond_true]

/-! ### Powers of all bins -/
def binG (k : Int) : Nat → List Bool → C
  | _, [] => (0, 0)
  | n, b :: t => if b then addC (q4 (-(k * n))) (binG k (n + 1) t) else binG k (n + 1) t
theorem addC_assoc (x y z : C) : addC (addC x y) z = addC x (addC y z) := by simp [addC, Int.add_assoc]
theorem addC_zero (x : C) : addC x (0, 0) = x := by simp [addC]
theorem zero_addC (x : C) : addC (0, 0) x = x := by simp [addC]
theorem binA_G (k : Int) : ∀ (l : List Bool) (n : Nat) (a : C), binA k n a l = addC a (binG k n l)
  | [], n, a => by simp [binA, binG, addC_zero]
  | b :: t, n, a => by
    unfold binA binG
    rw [binA_G k t]
    cases b
    · rfl
    · exact addC_assoc _ _ _
theorem bin_G (h : List Bool) (k : Int) : bin h k = binG k 0 (last h) := by
  unfold bin
  rw [binA_G, zero_addC]
theorem q4_mod (m : Int) : q4 m = q4 (m % 4) := by simp [q4]
theorem q4_at (m r : Int) (h : m % 4 = r) : q4 m = q4 r := by rw [q4_mod, h]
theorem bin_cnt : ∀ (l : List Bool) (n : Nat), binG 0 n l = (cnt 0 n l + cnt 1 n l + cnt 2 n l + cnt 3 n l, 0) ∧ binG 1 n l = (cnt 0 n l - cnt 2 n l, cnt 3 n l - cnt 1 n l) ∧
    binG 2 n l = (cnt 0 n l - cnt 1 n l + cnt 2 n l - cnt 3 n l, 0) ∧ binG 3 n l = (cnt 0 n l - cnt 2 n l, cnt 1 n l - cnt 3 n l)
  | [], n => by simp [binG, cnt]
  | b :: t, n => by
    obtain ⟨h0, h1, h2, h3⟩ := bin_cnt t (n + 1)
    simp only [binG, cnt, h0, h1, h2, h3]
    cases b
    · simp
    · have hn : n % 4 = 0 ∨ n % 4 = 1 ∨ n % 4 = 2 ∨ n % 4 = 3 := by omega
      rcases hn with h | h | h | h
      · rw [q4_at (-(0 * (n : Int))) 0 (by omega), q4_at (-(1 * (n : Int))) 0 (by omega), q4_at (-(2 * (n : Int))) 0 (by omega), q4_at (-(3 * (n : Int))) 0 (by omega)]
        simp [h, q4, addC]
        omega
      · rw [q4_at (-(0 * (n : Int))) 0 (by omega), q4_at (-(1 * (n : Int))) 3 (by omega), q4_at (-(2 * (n : Int))) 2 (by omega), q4_at (-(3 * (n : Int))) 1 (by omega)]
        simp [h, q4, addC]
        omega
      · rw [q4_at (-(0 * (n : Int))) 0 (by omega), q4_at (-(1 * (n : Int))) 2 (by omega), q4_at (-(2 * (n : Int))) 0 (by omega), q4_at (-(3 * (n : Int))) 2 (by omega)]
        simp [h, q4, addC]
        omega
      · rw [q4_at (-(0 * (n : Int))) 0 (by omega), q4_at (-(1 * (n : Int))) 1 (by omega), q4_at (-(2 * (n : Int))) 2 (by omega), q4_at (-(3 * (n : Int))) 3 (by omega)]
        simp [h, q4, addC]
        omega
theorem fourth_at (h : List Bool) : fourth h 0 = cnt 0 0 (last h) ∧ fourth h 1 = cnt 1 0 (last h) ∧ fourth h 2 = cnt 2 0 (last h) ∧ fourth h 3 = cnt 3 0 (last h) := by
  have d : (last h).drop 0 = last h := List.drop_zero
  refine ⟨?_, ?_, ?_, ?_⟩
  · show cnt 0 0 ((last h).drop 0) = _
    rw [d]
  · show cnt 1 1 ((last h).drop 1) = _
    rw [← cnt_skip 1 (last h) 0 (by decide), d]
  · show cnt 2 2 ((last h).drop 2) = _
    rw [← cnt_skip 2 (last h) 1 (by decide), ← cnt_skip 2 (last h) 0 (by decide), d]
  · show cnt 3 3 ((last h).drop 3) = _
    rw [← cnt_skip 3 (last h) 2 (by decide), ← cnt_skip 3 (last h) 1 (by decide), ← cnt_skip 3 (last h) 0 (by decide), d]
theorem fourth_bd (h : List Bool) (k : Int) : 0 ≤ fourth h k ∧ fourth h k ≤ 256 := by
  have h1 := cnt_bd k.toNat ((last h).drop k.toNat) k.toNat
  have h2 := last_len h
  rw [List.length_drop] at h1
  unfold fourth
  omega
noncomputable def lpowers_W : FnW E := fn1 (E := E) .l_bool .bool (fun _ => true) (fun _ => true)
def lpowers_id : FuncId := 5
noncomputable def lpowers_O : Oracle E := orac [(10, awake_W), (21, rfourth_W), (11, wbins_W), (14, wpower_W)] []
noncomputable def lpowers_H : Hint E := Hint.mk [(0, [0, 3, 4, 5, 6])] [] []
noncomputable def lpowers_C0_0 (v0 : List Bool) (v1 : Int) (v2 : Int) (v3 : Int) (v4 : Int) (v5 : Int) (v6 : Int) (v7 : Int) (v8 : Int) (v9 : Int) (v10 : Int) : ASt E := ASt.mk 70 [(0, .d (.slice .bool v0)), (3, .ptr 0 0), (4, .d (.int .i64 v1)), (5, .d (.int .i64 v2)), (6, .d (.int .i64 (0 : Int)))] [(0, .box [.d (.cpx v3 v4), .d (.cpx v5 v6), .d (.cpx v7 v8), .d (.cpx v9 v10)])] 1
noncomputable def lpowers_C0_1 (v0 : List Bool) (v1 : Int) (v2 : Int) (v3 : Int) (v4 : Int) (v5 : Int) (v6 : Int) (v7 : Int) (v8 : Int) (v9 : Int) (v10 : Int) : ASt E := ASt.mk 70 [(0, .d (.slice .bool v0)), (3, .ptr 0 0), (4, .d (.int .i64 v1)), (5, .d (.int .i64 v2)), (6, .d (.int .i64 (1 : Int)))] [(0, .box [.d (.cpx v3 v4), .d (.cpx v5 v6), .d (.cpx v7 v8), .d (.cpx v9 v10)])] 1
noncomputable def lpowers_C0_2 (v0 : List Bool) (v1 : Int) (v2 : Int) (v3 : Int) (v4 : Int) (v5 : Int) (v6 : Int) (v7 : Int) (v8 : Int) (v9 : Int) (v10 : Int) : ASt E := ASt.mk 70 [(0, .d (.slice .bool v0)), (3, .ptr 0 0), (4, .d (.int .i64 v1)), (5, .d (.int .i64 v2)), (6, .d (.int .i64 (2 : Int)))] [(0, .box [.d (.cpx v3 v4), .d (.cpx v5 v6), .d (.cpx v7 v8), .d (.cpx v9 v10)])] 1
noncomputable def lpowers_C0_3 (v0 : List Bool) (v1 : Int) (v2 : Int) (v3 : Int) (v4 : Int) (v5 : Int) (v6 : Int) (v7 : Int) (v8 : Int) (v9 : Int) (v10 : Int) : ASt E := ASt.mk 70 [(0, .d (.slice .bool v0)), (3, .ptr 0 0), (4, .d (.int .i64 v1)), (5, .d (.int .i64 v2)), (6, .d (.int .i64 (3 : Int)))] [(0, .box [.d (.cpx v3 v4), .d (.cpx v5 v6), .d (.cpx v7 v8), .d (.cpx v9 v10)])] 1
noncomputable def lpowers_C0_4 (v0 : List Bool) (v1 : Int) (v2 : Int) (v3 : Int) (v4 : Int) (v5 : Int) (v6 : Int) (v7 : Int) (v8 : Int) (v9 : Int) (v10 : Int) : ASt E := ASt.mk 70 [(0, .d (.slice .bool v0)), (3, .ptr 0 0), (4, .d (.int .i64 v1)), (5, .d (.int .i64 v2)), (6, .d (.int .i64 (4 : Int)))] [(0, .box [.d (.cpx v3 v4), .d (.cpx v5 v6), .d (.cpx v7 v8), .d (.cpx v9 v10)])] 1
noncomputable def lpowers_t (G : Nat → ASt E → Option (List (TV E))) (x0 : List Bool) : Option (List (TV E)) :=
  bif (decide ((600 : Int) < (x0.length : Int))) then some [⟨.bool, true⟩] else (bif (small x0) then G 0 (lpowers_C0_0 x0 (0 : Int) (0 : Int) (((bins x0).e0).1) (((bins x0).e0).2) (((bins x0).e1).1) (((bins x0).e1).2) (((bins x0).e2).1) (((bins x0).e2).2) (((bins x0).e3).1) (((bins x0).e3).2)) else none)
theorem lpowers_e (G : Nat → ASt E → Option (List (TV E))) (x0 : List Bool) : runE lpowers_O lpowers_H G Try.f5 [⟨.l_bool, x0⟩] = lpowers_t G x0 := by kernel_rfl
noncomputable def lpowers_t0_0 (G : Nat → ASt E → Option (List (TV E))) (v0 : List Bool) (v1 : Int) (v2 : Int) (v3 : Int) (v4 : Int) (v5 : Int) (v6 : Int) (v7 : Int) (v8 : Int) (v9 : Int) (v10 : Int) : Option (List (TV E)) :=
  bif (okC ((v3, v4) : Int × Int)) then (bif (okBin v0 (0 : Int)) then (bif (okBin v0 (0 : Int)) then G 0 (lpowers_C0_1 v0 (w64 (v1 + (powerV ((v3, v4) : Int × Int)))) (w64 (v2 + (w64 ((w64 ((4 : Int) * (fourth v0 (0 : Int)))) * (fourth v0 (0 : Int)))))) v3 v4 v5 v6 v7 v8 v9 v10) else none) else none) else none
theorem lpowers_l0_0 (G : Nat → ASt E → Option (List (TV E))) (v0 : List Bool) (v1 : Int) (v2 : Int) (v3 : Int) (v4 : Int) (v5 : Int) (v6 : Int) (v7 : Int) (v8 : Int) (v9 : Int) (v10 : Int) : runL lpowers_O lpowers_H G Try.f5 0 (lpowers_C0_0 v0 v1 v2 v3 v4 v5 v6 v7 v8 v9 v10) = lpowers_t0_0 G v0 v1 v2 v3 v4 v5 v6 v7 v8 v9 v10 := by kernel_rfl
noncomputable def lpowers_t0_1 (G : Nat → ASt E → Option (List (TV E))) (v0 : List Bool) (v1 : Int) (v2 : Int) (v3 : Int) (v4 : Int) (v5 : Int) (v6 : Int) (v7 : Int) (v8 : Int) (v9 : Int) (v10 : Int) : Option (List (TV E)) :=
  bif (okC ((v5, v6) : Int × Int)) then (bif (okBin v0 (1 : Int)) then (bif (okBin v0 (1 : Int)) then G 0 (lpowers_C0_2 v0 (w64 (v1 + (powerV ((v5, v6) : Int × Int)))) (w64 (v2 + (w64 ((w64 ((4 : Int) * (fourth v0 (1 : Int)))) * (fourth v0 (1 : Int)))))) v3 v4 v5 v6 v7 v8 v9 v10) else none) else none) else none
theorem lpowers_l0_1 (G : Nat → ASt E → Option (List (TV E))) (v0 : List Bool) (v1 : Int) (v2 : Int) (v3 : Int) (v4 : Int) (v5 : Int) (v6 : Int) (v7 : Int) (v8 : Int) (v9 : Int) (v10 : Int) : runL lpowers_O lpowers_H G Try.f5 0 (lpowers_C0_1 v0 v1 v2 v3 v4 v5 v6 v7 v8 v9 v10) = lpowers_t0_1 G v0 v1 v2 v3 v4 v5 v6 v7 v8 v9 v10 := by kernel_rfl
noncomputable def lpowers_t0_2 (G : Nat → ASt E → Option (List (TV E))) (v0 : List Bool) (v1 : Int) (v2 : Int) (v3 : Int) (v4 : Int) (v5 : Int) (v6 : Int) (v7 : Int) (v8 : Int) (v9 : Int) (v10 : Int) : Option (List (TV E)) :=
  bif (okC ((v7, v8) : Int × Int)) then (bif (okBin v0 (2 : Int)) then (bif (okBin v0 (2 : Int)) then G 0 (lpowers_C0_3 v0 (w64 (v1 + (powerV ((v7, v8) : Int × Int)))) (w64 (v2 + (w64 ((w64 ((4 : Int) * (fourth v0 (2 : Int)))) * (fourth v0 (2 : Int)))))) v3 v4 v5 v6 v7 v8 v9 v10) else none) else none) else none
theorem lpowers_l0_2 (G : Nat → ASt E → Option (List (TV E))) (v0 : List Bool) (v1 : Int) (v2 : Int) (v3 : Int) (v4 : Int) (v5 : Int) (v6 : Int) (v7 : Int) (v8 : Int) (v9 : Int) (v10 : Int) : runL lpowers_O lpowers_H G Try.f5 0 (lpowers_C0_2 v0 v1 v2 v3 v4 v5 v6 v7 v8 v9 v10) = lpowers_t0_2 G v0 v1 v2 v3 v4 v5 v6 v7 v8 v9 v10 := by kernel_rfl
noncomputable def lpowers_t0_3 (G : Nat → ASt E → Option (List (TV E))) (v0 : List Bool) (v1 : Int) (v2 : Int) (v3 : Int) (v4 : Int) (v5 : Int) (v6 : Int) (v7 : Int) (v8 : Int) (v9 : Int) (v10 : Int) : Option (List (TV E)) :=
  bif (okC ((v9, v10) : Int × Int)) then (bif (okBin v0 (3 : Int)) then (bif (okBin v0 (3 : Int)) then G 0 (lpowers_C0_4 v0 (w64 (v1 + (powerV ((v9, v10) : Int × Int)))) (w64 (v2 + (w64 ((w64 ((4 : Int) * (fourth v0 (3 : Int)))) * (fourth v0 (3 : Int)))))) v3 v4 v5 v6 v7 v8 v9 v10) else none) else none) else none
theorem lpowers_l0_3 (G : Nat → ASt E → Option (List (TV E))) (v0 : List Bool) (v1 : Int) (v2 : Int) (v3 : Int) (v4 : Int) (v5 : Int) (v6 : Int) (v7 : Int) (v8 : Int) (v9 : Int) (v10 : Int) : runL lpowers_O lpowers_H G Try.f5 0 (lpowers_C0_3 v0 v1 v2 v3 v4 v5 v6 v7 v8 v9 v10) = lpowers_t0_3 G v0 v1 v2 v3 v4 v5 v6 v7 v8 v9 v10 := by kernel_rfl
noncomputable def lpowers_t0_4 (_G : Nat → ASt E → Option (List (TV E))) (_v0 : List Bool) (v1 : Int) (v2 : Int) (_v3 : Int) (v4 : Int) (v5 : Int) (v6 : Int) (_v7 : Int) (v8 : Int) (v9 : Int) (v10 : Int) : Option (List (TV E)) :=
  bif ((fltOk v4 && fltOk (0 : Int)) || !(v1 == v2)) then (bif ((fltOk v8 && fltOk (0 : Int)) || !(bif (v1 == v2) then (v4 == (0 : Int)) else false)) then (bif ((fltOk v9 && fltOk v5) || !(bif (bif (v1 == v2) then (v4 == (0 : Int)) else false) then (v8 == (0 : Int)) else false)) then (bif ((fltOk v6) || !(bif (bif (bif (v1 == v2) then (v4 == (0 : Int)) else false) then (v8 == (0 : Int)) else false) then (v9 == v5) else false)) then (bif ((fltOk v10 && fltOk (-v6)) || !(bif (bif (bif (v1 == v2) then (v4 == (0 : Int)) else false) then (v8 == (0 : Int)) else false) then (v9 == v5) else false)) then some [⟨.bool, (bif (bif (bif (bif (bif (v1 == v2) then (v4 == (0 : Int)) else false) then (v8 == (0 : Int)) else false) then (v9 == v5) else false) then (v10 == (-v6)) else false) then true else false)⟩] else none) else none) else none) else none) else none
theorem lpowers_l0_4 (G : Nat → ASt E → Option (List (TV E))) (v0 : List Bool) (v1 : Int) (v2 : Int) (v3 : Int) (v4 : Int) (v5 : Int) (v6 : Int) (v7 : Int) (v8 : Int) (v9 : Int) (v10 : Int) : runL lpowers_O lpowers_H G Try.f5 0 (lpowers_C0_4 v0 v1 v2 v3 v4 v5 v6 v7 v8 v9 v10) = lpowers_t0_4 G v0 v1 v2 v3 v4 v5 v6 v7 v8 v9 v10 := by kernel_rfl
theorem lpowers_f : Try.prog.funcs[5]? = some Try.f5 := by kernel_rfl
theorem lpowers_n : (Try.f5.name == "runtime.NumGoroutine") = false := by kernel_rfl
theorem lpowers_b : Try.f5.body.isNone = false := by kernel_rfl
theorem lpowers_hO : OracleOk E lpowers_O := orac_ok (.cons awake_ok (.cons rfourth_ok (.cons wbins_ok (.cons wpower_ok .nil)))) .nil
theorem lpowers_s0_0 {res : List (TV E)} {v0 : List Bool} {v1 : Int} {v2 : Int} {v3 : Int} {v4 : Int} {v5 : Int} {v6 : Int} {v7 : Int} {v8 : Int} {v9 : Int} {v10 : Int} (h : lpowers_t0_0 (Gr E Try.f5 res) v0 v1 v2 v3 v4 v5 v6 v7 v8 v9 v10 = some res) : Ev E Try.f5 res 0 (lpowers_C0_0 v0 v1 v2 v3 v4 v5 v6 v7 v8 v9 v10) := Ev.step lpowers_hO mix ((lpowers_l0_0 _ v0 v1 v2 v3 v4 v5 v6 v7 v8 v9 v10).trans h)
theorem lpowers_s0_1 {res : List (TV E)} {v0 : List Bool} {v1 : Int} {v2 : Int} {v3 : Int} {v4 : Int} {v5 : Int} {v6 : Int} {v7 : Int} {v8 : Int} {v9 : Int} {v10 : Int} (h : lpowers_t0_1 (Gr E Try.f5 res) v0 v1 v2 v3 v4 v5 v6 v7 v8 v9 v10 = some res) : Ev E Try.f5 res 0 (lpowers_C0_1 v0 v1 v2 v3 v4 v5 v6 v7 v8 v9 v10) := Ev.step lpowers_hO mix ((lpowers_l0_1 _ v0 v1 v2 v3 v4 v5 v6 v7 v8 v9 v10).trans h)
theorem lpowers_s0_2 {res : List (TV E)} {v0 : List Bool} {v1 : Int} {v2 : Int} {v3 : Int} {v4 : Int} {v5 : Int} {v6 : Int} {v7 : Int} {v8 : Int} {v9 : Int} {v10 : Int} (h : lpowers_t0_2 (Gr E Try.f5 res) v0 v1 v2 v3 v4 v5 v6 v7 v8 v9 v10 = some res) : Ev E Try.f5 res 0 (lpowers_C0_2 v0 v1 v2 v3 v4 v5 v6 v7 v8 v9 v10) := Ev.step lpowers_hO mix ((lpowers_l0_2 _ v0 v1 v2 v3 v4 v5 v6 v7 v8 v9 v10).trans h)
theorem lpowers_s0_3 {res : List (TV E)} {v0 : List Bool} {v1 : Int} {v2 : Int} {v3 : Int} {v4 : Int} {v5 : Int} {v6 : Int} {v7 : Int} {v8 : Int} {v9 : Int} {v10 : Int} (h : lpowers_t0_3 (Gr E Try.f5 res) v0 v1 v2 v3 v4 v5 v6 v7 v8 v9 v10 = some res) : Ev E Try.f5 res 0 (lpowers_C0_3 v0 v1 v2 v3 v4 v5 v6 v7 v8 v9 v10) := Ev.step lpowers_hO mix ((lpowers_l0_3 _ v0 v1 v2 v3 v4 v5 v6 v7 v8 v9 v10).trans h)
theorem lpowers_s0_4 {res : List (TV E)} {v0 : List Bool} {v1 : Int} {v2 : Int} {v3 : Int} {v4 : Int} {v5 : Int} {v6 : Int} {v7 : Int} {v8 : Int} {v9 : Int} {v10 : Int} (h : lpowers_t0_4 (Gr E Try.f5 res) v0 v1 v2 v3 v4 v5 v6 v7 v8 v9 v10 = some res) : Ev E Try.f5 res 0 (lpowers_C0_4 v0 v1 v2 v3 v4 v5 v6 v7 v8 v9 v10) := Ev.step lpowers_hO mix ((lpowers_l0_4 _ v0 v1 v2 v3 v4 v5 v6 v7 v8 v9 v10).trans h)
theorem lpowers_ok_of (h : ∀ (x0 : List Bool), lpowers_t (Gr E Try.f5 [⟨.bool, (fun _ => true) x0⟩]) x0 = some [⟨.bool, (fun _ => true) x0⟩]) : FnOk E lpowers_id lpowers_W := fn1_ok lpowers_hO mix lpowers_f lpowers_n lpowers_b (fun x0 _ => (lpowers_e _ x0).trans (h x0))
theorem four_w (x : Int) (h1 : 0 ≤ x) (h2 : x ≤ 256) : w64 (w64 (4 * x) * x) = 4 * x * x ∧ 0 ≤ 4 * x * x ∧ 4 * x * x ≤ 1099511627776 := by
  have b := mul_bd (4 * x) x (by omega) (by omega) (by omega) (by omega)
  have b2 := sq_bd (2 * x) (by omega) (by omega)
  have e : (2 * x) * (2 * x) = 4 * x * x := by grind
  refine ⟨?_, by omega, by omega⟩
  rw [w64_id (n := 4 * x) (by omega) (by omega), w64_id (by omega) (by omega)]
theorem lpowers_ok : FnOk E lpowers_id lpowers_W := lpowers_ok_of fun h => by
  simp only [lpowers_t]
  by_cases hl : 600 < h.length
  · rw [gt_true (by omega), cond_true]
  · rw [gt_false (by omega), cond_false]
    have hs : small h = true := by simp only [small, decide_eq_true_eq]; omega
    have k0 := okBin_of hs 0 (by decide) (by decide)
    have k1 := okBin_of hs 1 (by decide) (by decide)
    have k2 := okBin_of hs 2 (by decide) (by decide)
    have k3 := okBin_of hs 3 (by decide) (by decide)
    have p0 := powerV_bd h 0
    have p1 := powerV_bd h 1
    have p2 := powerV_bd h 2
    have p3 := powerV_bd h 3
    have f0 := fourth_bd h 0
    have f1 := fourth_bd h 1
    have f2 := fourth_bd h 2
    have f3 := fourth_bd h 3
    have w0 := four_w _ f0.1 f0.2
    have w1 := four_w _ f1.1 f1.2
    have w2 := four_w _ f2.1 f2.2
    have w3 := four_w _ f3.1 f3.2
    rw [hs, cond_true]
    refine Gr_of (lpowers_s0_0 ?_)
    simp only [lpowers_t0_0, bins, Prod.eta, k0, okC_bin, cond_true, w0.1]
    refine Gr_of (lpowers_s0_1 ?_)
    simp only [lpowers_t0_1, Prod.eta, k1, okC_bin, cond_true, w1.1]
    refine Gr_of (lpowers_s0_2 ?_)
    simp only [lpowers_t0_2, Prod.eta, k2, okC_bin, cond_true, w2.1]
    refine Gr_of (lpowers_s0_3 ?_)
    simp only [lpowers_t0_3, Prod.eta, k3, okC_bin, cond_true, w3.1]
    refine Gr_of (lpowers_s0_4 ?_)
    obtain ⟨g0, g1, g2, g3⟩ := fourth_at h
    obtain ⟨b0, b1, b2, b3⟩ := bin_cnt (last h) 0
    rw [← bin_G] at b0 b1 b2 b3
    have o0 := okC_bin h 0
    have o1 := okC_bin h 1
    have o2 := okC_bin h 2
    have o3 := okC_bin h 3
    simp only [okC, Bool.and_eq_true] at o0 o1 o2 o3
    have z : fltOk 0 = true := by decide
    have i0 : (bin h 0).2 = 0 := by rw [b0]
    have i2 : (bin h 2).2 = 0 := by rw [b2]
    have r31 : (bin h 3).1 = (bin h 1).1 := by rw [b3, b1]
    have i31 : (bin h 3).2 = -(bin h 1).2 := by rw [b3, b1]; simp only; omega
    have o1n : fltOk (-(bin h 1).2) = true := by rw [← i31]; exact o3.2
    have hsum : w64 (w64 (w64 (w64 (0 + powerV (bin h 0)) + powerV (bin h 1)) + powerV (bin h 2)) + powerV (bin h 3)) =
        w64 (w64 (w64 (w64 (0 + 4 * fourth h 0 * fourth h 0) + 4 * fourth h 1 * fourth h 1) + 4 * fourth h 2 * fourth h 2) + 4 * fourth h 3 * fourth h 3) := by
      have e : powerV (bin h 0) + powerV (bin h 1) + powerV (bin h 2) + powerV (bin h 3) = 4 * fourth h 0 * fourth h 0 + 4 * fourth h 1 * fourth h 1 + 4 * fourth h 2 * fourth h 2 + 4 * fourth h 3 * fourth h 3 := by
        rw [p0.1, p1.1, p2.1, p3.1, b0, b1, b2, b3, g0, g1, g2, g3]
        grind
      generalize powerV (bin h 0) = P0 at *
      generalize powerV (bin h 1) = P1 at *
      generalize powerV (bin h 2) = P2 at *
      generalize powerV (bin h 3) = P3 at *
      generalize 4 * fourth h 0 * fourth h 0 = F0 at *
      generalize 4 * fourth h 1 * fourth h 1 = F1 at *
      generalize 4 * fourth h 2 * fourth h 2 = F2 at *
      generalize 4 * fourth h 3 * fourth h 3 = F3 at *
      rw [w64_id (n := 0 + P0) (by omega) (by omega), w64_id (n := 0 + P0 + P1) (by omega) (by omega), w64_id (n := 0 + P0 + P1 + P2) (by omega) (by omega), w64_id (n := 0 + P0 + P1 + P2 + P3) (by omega) (by omega),
        w64_id (n := 0 + F0) (by omega) (by omega), w64_id (n := 0 + F0 + F1) (by omega) (by omega), w64_id (n := 0 + F0 + F1 + F2) (by omega) (by omega), w64_id (n := 0 + F0 + F1 + F2 + F3) (by omega) (by omega)]
      omega
    simp only [lpowers_t0_4, hsum, i0, i2, r31, i31, o1.1, o1.2, o1n, z, beq_self_eq_true, cond_true, Bool.true_or, Bool.and_self]

/-! ### A history behind another one -/
theorem q4_turn (a b : Int) : q4 (a + b) = turnZ (q4 a) b := by
  rw [q4_mod]
  unfold q4 turnZ
  rcases m4 a with h | h | h | h <;> rcases m4 b with g | g | g | g
  all_goals
    have e : (a + b) % 4 = (a % 4 + b % 4) % 4 := by omega
    rw [h, g] at e
    simp [h, g, e]
theorem turn_addC (x y : C) (n : Int) : turnZ (addC x y) n = addC (turnZ x n) (turnZ y n) := by
  unfold turnZ addC
  rcases m4 n with h | h | h | h <;> simp [h] <;> omega
theorem binG_shift (k : Int) (n : Nat) : ∀ (l : List Bool) (m : Nat), binG k (n + m) l = turnZ (binG k m l) (-(k * n))
  | [], m => by simp [binG, turnZ]
  | b :: t, m => by
    unfold binG
    have ih := binG_shift k n t (m + 1)
    rw [show n + m + 1 = n + (m + 1) from by omega, ih]
    cases b
    · rfl
    · simp only [if_true]
      rw [turn_addC, ← q4_turn]
      congr 2
      have : (((n + m : Nat) : Int)) = (n : Int) + m := by omega
      rw [this, Int.mul_add]
      omega
theorem binG_app (k : Int) : ∀ (a b : List Bool) (n : Nat), binG k n (a ++ b) = addC (binG k n a) (binG k (n + a.length) b)
  | [], b, n => by simp [binG, zero_addC]
  | x :: t, b, n => by
    have ih := binG_app k t b (n + 1)
    simp only [List.cons_append, binG, ih, List.length_cons]
    rw [show n + 1 + t.length = n + (t.length + 1) from by omega]
    cases x
    · rfl
    · exact (addC_assoc _ _ _).symm
theorem bin_app (a b : List Bool) (k : Int) (h : a.length + b.length ≤ 256) : bin (a ++ b) k = addC (bin a k) (turnZ (bin b k) (-(k * a.length))) := by
  rw [bin_G, bin_G, bin_G, last_id (by rw [List.length_append]; exact h), last_id (h := a) (by omega), last_id (h := b) (by omega), binG_app, Nat.zero_add, ← binG_shift, Nat.add_zero]
theorem binG_good (k : Int) : ∀ (n m : Nat), binG k m (List.replicate n false) = (0, 0)
  | 0, m => rfl
  | n + 1, m => by
    rw [List.replicate_succ]
    simp only [binG, Bool.false_eq_true, if_false]
    exact binG_good k n (m + 1)
theorem binG_bad (k : Int) (hk : k = 1 ∨ k = 2) : ∀ (n m : Nat), binG k m (List.replicate (4 * n) true) = (0, 0)
  | 0, m => rfl
  | n + 1, m => by
    rw [show 4 * (n + 1) = 4 * n + 1 + 1 + 1 + 1 from by omega]
    simp only [List.replicate_succ, binG, if_true, binG_bad k hk n]
    have hm : m % 4 = 0 ∨ m % 4 = 1 ∨ m % 4 = 2 ∨ m % 4 = 3 := by omega
    rcases hk with rfl | rfl
    · rcases hm with h | h | h | h
      · rw [q4_at (-(1 * (m : Int))) 0 (by omega), q4_at (-(1 * ((m + 1 : Nat) : Int))) 3 (by omega), q4_at (-(1 * ((m + 1 + 1 : Nat) : Int))) 2 (by omega), q4_at (-(1 * ((m + 1 + 1 + 1 : Nat) : Int))) 1 (by omega)]; decide
      · rw [q4_at (-(1 * (m : Int))) 3 (by omega), q4_at (-(1 * ((m + 1 : Nat) : Int))) 2 (by omega), q4_at (-(1 * ((m + 1 + 1 : Nat) : Int))) 1 (by omega), q4_at (-(1 * ((m + 1 + 1 + 1 : Nat) : Int))) 0 (by omega)]; decide
      · rw [q4_at (-(1 * (m : Int))) 2 (by omega), q4_at (-(1 * ((m + 1 : Nat) : Int))) 1 (by omega), q4_at (-(1 * ((m + 1 + 1 : Nat) : Int))) 0 (by omega), q4_at (-(1 * ((m + 1 + 1 + 1 : Nat) : Int))) 3 (by omega)]; decide
      · rw [q4_at (-(1 * (m : Int))) 1 (by omega), q4_at (-(1 * ((m + 1 : Nat) : Int))) 0 (by omega), q4_at (-(1 * ((m + 1 + 1 : Nat) : Int))) 3 (by omega), q4_at (-(1 * ((m + 1 + 1 + 1 : Nat) : Int))) 2 (by omega)]; decide
    · rcases hm with h | h | h | h
      · rw [q4_at (-(2 * (m : Int))) 0 (by omega), q4_at (-(2 * ((m + 1 : Nat) : Int))) 2 (by omega), q4_at (-(2 * ((m + 1 + 1 : Nat) : Int))) 0 (by omega), q4_at (-(2 * ((m + 1 + 1 + 1 : Nat) : Int))) 2 (by omega)]; decide
      · rw [q4_at (-(2 * (m : Int))) 2 (by omega), q4_at (-(2 * ((m + 1 : Nat) : Int))) 0 (by omega), q4_at (-(2 * ((m + 1 + 1 : Nat) : Int))) 2 (by omega), q4_at (-(2 * ((m + 1 + 1 + 1 : Nat) : Int))) 0 (by omega)]; decide
      · rw [q4_at (-(2 * (m : Int))) 0 (by omega), q4_at (-(2 * ((m + 1 : Nat) : Int))) 2 (by omega), q4_at (-(2 * ((m + 1 + 1 : Nat) : Int))) 0 (by omega), q4_at (-(2 * ((m + 1 + 1 + 1 : Nat) : Int))) 2 (by omega)]; decide
      · rw [q4_at (-(2 * (m : Int))) 2 (by omega), q4_at (-(2 * ((m + 1 : Nat) : Int))) 0 (by omega), q4_at (-(2 * ((m + 1 + 1 : Nat) : Int))) 2 (by omega), q4_at (-(2 * ((m + 1 + 1 + 1 : Nat) : Int))) 0 (by omega)]; decide
theorem powerV_zero : powerV (0, 0) = 0 := by decide
theorem beat_zero (h : List Bool) (h1 : bin h 1 = (0, 0)) (h2 : bin h 2 = (0, 0)) : beat h = 0 := by
  unfold beat
  rw [h1, h2, powerV_zero]
  split
  · rfl
  · rename_i hn
    have : 8 * 8 ≤ (last h).length * (last h).length := Nat.mul_le_mul (by omega) (by omega)
    rw [if_neg (by omega), if_neg (by omega)]
theorem beat_good (n : Nat) (hn : n ≤ 256) : beat (List.replicate n false) = 0 := by
  have e : last (List.replicate n false) = List.replicate n false := last_id (by rw [List.length_replicate]; exact hn)
  exact beat_zero _ (by rw [bin_G, e, binG_good]) (by rw [bin_G, e, binG_good])
theorem beat_bad (n : Nat) (hn : n ≤ 64) : beat (List.replicate (4 * n) true) = 0 := by
  have e : last (List.replicate (4 * n) true) = List.replicate (4 * n) true := last_id (by rw [List.length_replicate]; omega)
  exact beat_zero _ (by rw [bin_G, e, binG_bad 1 (.inl rfl)]) (by rw [bin_G, e, binG_bad 2 (.inr rfl)])
noncomputable def ljoins_W : FnW E := fn3 (E := E) .l_bool .l_bool .int .bool (fun _ _ _ => true) (fun _ _ _ => true)
def ljoins_id : FuncId := 6
noncomputable def ljoins_O : Oracle E := orac [(10, awake_W), (16, wbeat_W), (11, wbins_W), (19, wturn_W)] []
noncomputable def ljoins_H : Hint E := Hint.mk [(0, [0, 2, 8, 9, 10, 11]), (1, [2, 12, 13])] [19] []
noncomputable def ljoins_C0_0 (v0 : List Bool) (v1 : Int) (v2 : Int) (v3 : Int) (v4 : Int) (v5 : Int) (v6 : Int) (v7 : Int) (v8 : Int) (v9 : Int) (v10 : Int) (v11 : Int) (v12 : Int) (v13 : Int) (v14 : Int) (v15 : Int) (v16 : Int) (v17 : Int) (v18 : Int) (v19 : Int) (v20 : Int) (v21 : Int) (v22 : Int) (v23 : Int) (v24 : Int) (v25 : Int) : ASt E := ASt.mk 90 [(0, .d (.slice .bool v0)), (2, .d (.int .i64 v1)), (8, .ptr 0 0), (9, .ptr 1 0), (10, .ptr 2 0), (11, .d (.int .i64 (0 : Int)))] [(0, .box [.d (.cpx v2 v3), .d (.cpx v4 v5), .d (.cpx v6 v7), .d (.cpx v8 v9)]), (1, .box [.d (.cpx v10 v11), .d (.cpx v12 v13), .d (.cpx v14 v15), .d (.cpx v16 v17)]), (2, .box [.d (.cpx v18 v19), .d (.cpx v20 v21), .d (.cpx v22 v23), .d (.cpx v24 v25)])] 3
noncomputable def ljoins_C0_1 (v0 : List Bool) (v1 : Int) (v2 : Int) (v3 : Int) (v4 : Int) (v5 : Int) (v6 : Int) (v7 : Int) (v8 : Int) (v9 : Int) (v10 : Int) (v11 : Int) (v12 : Int) (v13 : Int) (v14 : Int) (v15 : Int) (v16 : Int) (v17 : Int) (v18 : Int) (v19 : Int) (v20 : Int) (v21 : Int) (v22 : Int) (v23 : Int) (v24 : Int) (v25 : Int) : ASt E := ASt.mk 90 [(0, .d (.slice .bool v0)), (2, .d (.int .i64 v1)), (8, .ptr 0 0), (9, .ptr 1 0), (10, .ptr 2 0), (11, .d (.int .i64 (1 : Int)))] [(0, .box [.d (.cpx v2 v3), .d (.cpx v4 v5), .d (.cpx v6 v7), .d (.cpx v8 v9)]), (1, .box [.d (.cpx v10 v11), .d (.cpx v12 v13), .d (.cpx v14 v15), .d (.cpx v16 v17)]), (2, .box [.d (.cpx v18 v19), .d (.cpx v20 v21), .d (.cpx v22 v23), .d (.cpx v24 v25)])] 3
noncomputable def ljoins_C0_2 (v0 : List Bool) (v1 : Int) (v2 : Int) (v3 : Int) (v4 : Int) (v5 : Int) (v6 : Int) (v7 : Int) (v8 : Int) (v9 : Int) (v10 : Int) (v11 : Int) (v12 : Int) (v13 : Int) (v14 : Int) (v15 : Int) (v16 : Int) (v17 : Int) (v18 : Int) (v19 : Int) (v20 : Int) (v21 : Int) (v22 : Int) (v23 : Int) (v24 : Int) (v25 : Int) : ASt E := ASt.mk 90 [(0, .d (.slice .bool v0)), (2, .d (.int .i64 v1)), (8, .ptr 0 0), (9, .ptr 1 0), (10, .ptr 2 0), (11, .d (.int .i64 (2 : Int)))] [(0, .box [.d (.cpx v2 v3), .d (.cpx v4 v5), .d (.cpx v6 v7), .d (.cpx v8 v9)]), (1, .box [.d (.cpx v10 v11), .d (.cpx v12 v13), .d (.cpx v14 v15), .d (.cpx v16 v17)]), (2, .box [.d (.cpx v18 v19), .d (.cpx v20 v21), .d (.cpx v22 v23), .d (.cpx v24 v25)])] 3
noncomputable def ljoins_C0_3 (v0 : List Bool) (v1 : Int) (v2 : Int) (v3 : Int) (v4 : Int) (v5 : Int) (v6 : Int) (v7 : Int) (v8 : Int) (v9 : Int) (v10 : Int) (v11 : Int) (v12 : Int) (v13 : Int) (v14 : Int) (v15 : Int) (v16 : Int) (v17 : Int) (v18 : Int) (v19 : Int) (v20 : Int) (v21 : Int) (v22 : Int) (v23 : Int) (v24 : Int) (v25 : Int) : ASt E := ASt.mk 90 [(0, .d (.slice .bool v0)), (2, .d (.int .i64 v1)), (8, .ptr 0 0), (9, .ptr 1 0), (10, .ptr 2 0), (11, .d (.int .i64 (3 : Int)))] [(0, .box [.d (.cpx v2 v3), .d (.cpx v4 v5), .d (.cpx v6 v7), .d (.cpx v8 v9)]), (1, .box [.d (.cpx v10 v11), .d (.cpx v12 v13), .d (.cpx v14 v15), .d (.cpx v16 v17)]), (2, .box [.d (.cpx v18 v19), .d (.cpx v20 v21), .d (.cpx v22 v23), .d (.cpx v24 v25)])] 3
noncomputable def ljoins_C0_4 (v0 : List Bool) (v1 : Int) (v2 : Int) (v3 : Int) (v4 : Int) (v5 : Int) (v6 : Int) (v7 : Int) (v8 : Int) (v9 : Int) (v10 : Int) (v11 : Int) (v12 : Int) (v13 : Int) (v14 : Int) (v15 : Int) (v16 : Int) (v17 : Int) (v18 : Int) (v19 : Int) (v20 : Int) (v21 : Int) (v22 : Int) (v23 : Int) (v24 : Int) (v25 : Int) : ASt E := ASt.mk 90 [(0, .d (.slice .bool v0)), (2, .d (.int .i64 v1)), (8, .ptr 0 0), (9, .ptr 1 0), (10, .ptr 2 0), (11, .d (.int .i64 (4 : Int)))] [(0, .box [.d (.cpx v2 v3), .d (.cpx v4 v5), .d (.cpx v6 v7), .d (.cpx v8 v9)]), (1, .box [.d (.cpx v10 v11), .d (.cpx v12 v13), .d (.cpx v14 v15), .d (.cpx v16 v17)]), (2, .box [.d (.cpx v18 v19), .d (.cpx v20 v21), .d (.cpx v22 v23), .d (.cpx v24 v25)])] 3
noncomputable def ljoins_C1 (v0 : Int) (v1 : Nat) (v2 : Int) (v3 : List Bool) : ASt E := ASt.mk 90 [(2, .d (.int .i64 v0)), (12, .row .bool v1 0), (13, .d (.int .i64 v2))] [(0, .row .bool v3)] 1
noncomputable def ljoins_t (G : Nat → ASt E → Option (List (TV E))) (x0 : List Bool) (x1 : List Bool) (x2 : Int) : Option (List (TV E)) :=
  bif (bif (decide ((256 : Int) < (x0.length : Int))) then true else (decide ((w64 ((256 : Int) - (x0.length : Int))) < (x1.length : Int)))) then some [⟨.bool, true⟩] else (bif (decide (x0.length * 1 ≤ maxBytes)) then (bif (decide ((x0.length + x1.length) * 1 ≤ maxBytes)) then (bif (small x0) then (bif (small x1) then (bif (small (x0 ++ x1)) then G 0 (ljoins_C0_0 x0 x2 (((bins x0).e0).1) (((bins x0).e0).2) (((bins x0).e1).1) (((bins x0).e1).2) (((bins x0).e2).1) (((bins x0).e2).2) (((bins x0).e3).1) (((bins x0).e3).2) (((bins x1).e0).1) (((bins x1).e0).2) (((bins x1).e1).1) (((bins x1).e1).2) (((bins x1).e2).1) (((bins x1).e2).2) (((bins x1).e3).1) (((bins x1).e3).2) (((bins (x0 ++ x1)).e0).1) (((bins (x0 ++ x1)).e0).2) (((bins (x0 ++ x1)).e1).1) (((bins (x0 ++ x1)).e1).2) (((bins (x0 ++ x1)).e2).1) (((bins (x0 ++ x1)).e2).2) (((bins (x0 ++ x1)).e3).1) (((bins (x0 ++ x1)).e3).2)) else none) else none) else none) else none) else none)
theorem ljoins_e (G : Nat → ASt E → Option (List (TV E))) (x0 : List Bool) (x1 : List Bool) (x2 : Int) : runE ljoins_O ljoins_H G Try.f6 [⟨.l_bool, x0⟩, ⟨.l_bool, x1⟩, ⟨.int, x2⟩] = ljoins_t G x0 x1 x2 := by kernel_rfl
noncomputable def ljoins_t0_0 (G : Nat → ASt E → Option (List (TV E))) (v0 : List Bool) (v1 : Int) (v2 : Int) (v3 : Int) (v4 : Int) (v5 : Int) (v6 : Int) (v7 : Int) (v8 : Int) (v9 : Int) (v10 : Int) (v11 : Int) (v12 : Int) (v13 : Int) (v14 : Int) (v15 : Int) (v16 : Int) (v17 : Int) (v18 : Int) (v19 : Int) (v20 : Int) (v21 : Int) (v22 : Int) (v23 : Int) (v24 : Int) (v25 : Int) : Option (List (TV E)) :=
  bif ((fun z _ => okC z) ((v10, v11) : Int × Int) (w64 ((0 : Int) - (w64 ((0 : Int) * (v0.length : Int)))))) then (bif (sumOk v2 && sumOk ((turnZ ((v10, v11) : Int × Int) (w64 ((0 : Int) - (w64 ((0 : Int) * (v0.length : Int)))))).1) && (sumOk v3 && sumOk ((turnZ ((v10, v11) : Int × Int) (w64 ((0 : Int) - (w64 ((0 : Int) * (v0.length : Int)))))).2))) then (bif (fltOk v18 && fltOk (v2 + (turnZ ((v10, v11) : Int × Int) (w64 ((0 : Int) - (w64 ((0 : Int) * (v0.length : Int)))))).1) && (fltOk v19 && fltOk (v3 + (turnZ ((v10, v11) : Int × Int) (w64 ((0 : Int) - (w64 ((0 : Int) * (v0.length : Int)))))).2))) then (bif (!(v18 == (v2 + (turnZ ((v10, v11) : Int × Int) (w64 ((0 : Int) - (w64 ((0 : Int) * (v0.length : Int)))))).1) && v19 == (v3 + (turnZ ((v10, v11) : Int × Int) (w64 ((0 : Int) - (w64 ((0 : Int) * (v0.length : Int)))))).2))) then some [⟨.bool, false⟩] else G 0 (ljoins_C0_1 v0 v1 v2 v3 v4 v5 v6 v7 v8 v9 v10 v11 v12 v13 v14 v15 v16 v17 v18 v19 v20 v21 v22 v23 v24 v25)) else none) else none) else none
theorem ljoins_l0_0 (G : Nat → ASt E → Option (List (TV E))) (v0 : List Bool) (v1 : Int) (v2 : Int) (v3 : Int) (v4 : Int) (v5 : Int) (v6 : Int) (v7 : Int) (v8 : Int) (v9 : Int) (v10 : Int) (v11 : Int) (v12 : Int) (v13 : Int) (v14 : Int) (v15 : Int) (v16 : Int) (v17 : Int) (v18 : Int) (v19 : Int) (v20 : Int) (v21 : Int) (v22 : Int) (v23 : Int) (v24 : Int) (v25 : Int) : runL ljoins_O ljoins_H G Try.f6 0 (ljoins_C0_0 v0 v1 v2 v3 v4 v5 v6 v7 v8 v9 v10 v11 v12 v13 v14 v15 v16 v17 v18 v19 v20 v21 v22 v23 v24 v25) = ljoins_t0_0 G v0 v1 v2 v3 v4 v5 v6 v7 v8 v9 v10 v11 v12 v13 v14 v15 v16 v17 v18 v19 v20 v21 v22 v23 v24 v25 := by kernel_rfl
noncomputable def ljoins_t0_1 (G : Nat → ASt E → Option (List (TV E))) (v0 : List Bool) (v1 : Int) (v2 : Int) (v3 : Int) (v4 : Int) (v5 : Int) (v6 : Int) (v7 : Int) (v8 : Int) (v9 : Int) (v10 : Int) (v11 : Int) (v12 : Int) (v13 : Int) (v14 : Int) (v15 : Int) (v16 : Int) (v17 : Int) (v18 : Int) (v19 : Int) (v20 : Int) (v21 : Int) (v22 : Int) (v23 : Int) (v24 : Int) (v25 : Int) : Option (List (TV E)) :=
  bif ((fun z _ => okC z) ((v12, v13) : Int × Int) (w64 ((0 : Int) - (w64 ((1 : Int) * (v0.length : Int)))))) then (bif (sumOk v4 && sumOk ((turnZ ((v12, v13) : Int × Int) (w64 ((0 : Int) - (w64 ((1 : Int) * (v0.length : Int)))))).1) && (sumOk v5 && sumOk ((turnZ ((v12, v13) : Int × Int) (w64 ((0 : Int) - (w64 ((1 : Int) * (v0.length : Int)))))).2))) then (bif (fltOk v20 && fltOk (v4 + (turnZ ((v12, v13) : Int × Int) (w64 ((0 : Int) - (w64 ((1 : Int) * (v0.length : Int)))))).1) && (fltOk v21 && fltOk (v5 + (turnZ ((v12, v13) : Int × Int) (w64 ((0 : Int) - (w64 ((1 : Int) * (v0.length : Int)))))).2))) then (bif (!(v20 == (v4 + (turnZ ((v12, v13) : Int × Int) (w64 ((0 : Int) - (w64 ((1 : Int) * (v0.length : Int)))))).1) && v21 == (v5 + (turnZ ((v12, v13) : Int × Int) (w64 ((0 : Int) - (w64 ((1 : Int) * (v0.length : Int)))))).2))) then some [⟨.bool, false⟩] else G 0 (ljoins_C0_2 v0 v1 v2 v3 v4 v5 v6 v7 v8 v9 v10 v11 v12 v13 v14 v15 v16 v17 v18 v19 v20 v21 v22 v23 v24 v25)) else none) else none) else none
theorem ljoins_l0_1 (G : Nat → ASt E → Option (List (TV E))) (v0 : List Bool) (v1 : Int) (v2 : Int) (v3 : Int) (v4 : Int) (v5 : Int) (v6 : Int) (v7 : Int) (v8 : Int) (v9 : Int) (v10 : Int) (v11 : Int) (v12 : Int) (v13 : Int) (v14 : Int) (v15 : Int) (v16 : Int) (v17 : Int) (v18 : Int) (v19 : Int) (v20 : Int) (v21 : Int) (v22 : Int) (v23 : Int) (v24 : Int) (v25 : Int) : runL ljoins_O ljoins_H G Try.f6 0 (ljoins_C0_1 v0 v1 v2 v3 v4 v5 v6 v7 v8 v9 v10 v11 v12 v13 v14 v15 v16 v17 v18 v19 v20 v21 v22 v23 v24 v25) = ljoins_t0_1 G v0 v1 v2 v3 v4 v5 v6 v7 v8 v9 v10 v11 v12 v13 v14 v15 v16 v17 v18 v19 v20 v21 v22 v23 v24 v25 := by kernel_rfl
noncomputable def ljoins_t0_2 (G : Nat → ASt E → Option (List (TV E))) (v0 : List Bool) (v1 : Int) (v2 : Int) (v3 : Int) (v4 : Int) (v5 : Int) (v6 : Int) (v7 : Int) (v8 : Int) (v9 : Int) (v10 : Int) (v11 : Int) (v12 : Int) (v13 : Int) (v14 : Int) (v15 : Int) (v16 : Int) (v17 : Int) (v18 : Int) (v19 : Int) (v20 : Int) (v21 : Int) (v22 : Int) (v23 : Int) (v24 : Int) (v25 : Int) : Option (List (TV E)) :=
  bif ((fun z _ => okC z) ((v14, v15) : Int × Int) (w64 ((0 : Int) - (w64 ((2 : Int) * (v0.length : Int)))))) then (bif (sumOk v6 && sumOk ((turnZ ((v14, v15) : Int × Int) (w64 ((0 : Int) - (w64 ((2 : Int) * (v0.length : Int)))))).1) && (sumOk v7 && sumOk ((turnZ ((v14, v15) : Int × Int) (w64 ((0 : Int) - (w64 ((2 : Int) * (v0.length : Int)))))).2))) then (bif (fltOk v22 && fltOk (v6 + (turnZ ((v14, v15) : Int × Int) (w64 ((0 : Int) - (w64 ((2 : Int) * (v0.length : Int)))))).1) && (fltOk v23 && fltOk (v7 + (turnZ ((v14, v15) : Int × Int) (w64 ((0 : Int) - (w64 ((2 : Int) * (v0.length : Int)))))).2))) then (bif (!(v22 == (v6 + (turnZ ((v14, v15) : Int × Int) (w64 ((0 : Int) - (w64 ((2 : Int) * (v0.length : Int)))))).1) && v23 == (v7 + (turnZ ((v14, v15) : Int × Int) (w64 ((0 : Int) - (w64 ((2 : Int) * (v0.length : Int)))))).2))) then some [⟨.bool, false⟩] else G 0 (ljoins_C0_3 v0 v1 v2 v3 v4 v5 v6 v7 v8 v9 v10 v11 v12 v13 v14 v15 v16 v17 v18 v19 v20 v21 v22 v23 v24 v25)) else none) else none) else none
theorem ljoins_l0_2 (G : Nat → ASt E → Option (List (TV E))) (v0 : List Bool) (v1 : Int) (v2 : Int) (v3 : Int) (v4 : Int) (v5 : Int) (v6 : Int) (v7 : Int) (v8 : Int) (v9 : Int) (v10 : Int) (v11 : Int) (v12 : Int) (v13 : Int) (v14 : Int) (v15 : Int) (v16 : Int) (v17 : Int) (v18 : Int) (v19 : Int) (v20 : Int) (v21 : Int) (v22 : Int) (v23 : Int) (v24 : Int) (v25 : Int) : runL ljoins_O ljoins_H G Try.f6 0 (ljoins_C0_2 v0 v1 v2 v3 v4 v5 v6 v7 v8 v9 v10 v11 v12 v13 v14 v15 v16 v17 v18 v19 v20 v21 v22 v23 v24 v25) = ljoins_t0_2 G v0 v1 v2 v3 v4 v5 v6 v7 v8 v9 v10 v11 v12 v13 v14 v15 v16 v17 v18 v19 v20 v21 v22 v23 v24 v25 := by kernel_rfl
noncomputable def ljoins_t0_3 (G : Nat → ASt E → Option (List (TV E))) (v0 : List Bool) (v1 : Int) (v2 : Int) (v3 : Int) (v4 : Int) (v5 : Int) (v6 : Int) (v7 : Int) (v8 : Int) (v9 : Int) (v10 : Int) (v11 : Int) (v12 : Int) (v13 : Int) (v14 : Int) (v15 : Int) (v16 : Int) (v17 : Int) (v18 : Int) (v19 : Int) (v20 : Int) (v21 : Int) (v22 : Int) (v23 : Int) (v24 : Int) (v25 : Int) : Option (List (TV E)) :=
  bif ((fun z _ => okC z) ((v16, v17) : Int × Int) (w64 ((0 : Int) - (w64 ((3 : Int) * (v0.length : Int)))))) then (bif (sumOk v8 && sumOk ((turnZ ((v16, v17) : Int × Int) (w64 ((0 : Int) - (w64 ((3 : Int) * (v0.length : Int)))))).1) && (sumOk v9 && sumOk ((turnZ ((v16, v17) : Int × Int) (w64 ((0 : Int) - (w64 ((3 : Int) * (v0.length : Int)))))).2))) then (bif (fltOk v24 && fltOk (v8 + (turnZ ((v16, v17) : Int × Int) (w64 ((0 : Int) - (w64 ((3 : Int) * (v0.length : Int)))))).1) && (fltOk v25 && fltOk (v9 + (turnZ ((v16, v17) : Int × Int) (w64 ((0 : Int) - (w64 ((3 : Int) * (v0.length : Int)))))).2))) then (bif (!(v24 == (v8 + (turnZ ((v16, v17) : Int × Int) (w64 ((0 : Int) - (w64 ((3 : Int) * (v0.length : Int)))))).1) && v25 == (v9 + (turnZ ((v16, v17) : Int × Int) (w64 ((0 : Int) - (w64 ((3 : Int) * (v0.length : Int)))))).2))) then some [⟨.bool, false⟩] else G 0 (ljoins_C0_4 v0 v1 v2 v3 v4 v5 v6 v7 v8 v9 v10 v11 v12 v13 v14 v15 v16 v17 v18 v19 v20 v21 v22 v23 v24 v25)) else none) else none) else none
theorem ljoins_l0_3 (G : Nat → ASt E → Option (List (TV E))) (v0 : List Bool) (v1 : Int) (v2 : Int) (v3 : Int) (v4 : Int) (v5 : Int) (v6 : Int) (v7 : Int) (v8 : Int) (v9 : Int) (v10 : Int) (v11 : Int) (v12 : Int) (v13 : Int) (v14 : Int) (v15 : Int) (v16 : Int) (v17 : Int) (v18 : Int) (v19 : Int) (v20 : Int) (v21 : Int) (v22 : Int) (v23 : Int) (v24 : Int) (v25 : Int) : runL ljoins_O ljoins_H G Try.f6 0 (ljoins_C0_3 v0 v1 v2 v3 v4 v5 v6 v7 v8 v9 v10 v11 v12 v13 v14 v15 v16 v17 v18 v19 v20 v21 v22 v23 v24 v25) = ljoins_t0_3 G v0 v1 v2 v3 v4 v5 v6 v7 v8 v9 v10 v11 v12 v13 v14 v15 v16 v17 v18 v19 v20 v21 v22 v23 v24 v25 := by kernel_rfl
noncomputable def ljoins_t0_4 (G : Nat → ASt E → Option (List (TV E))) (_v0 : List Bool) (v1 : Int) (_v2 : Int) (_v3 : Int) (_v4 : Int) (_v5 : Int) (_v6 : Int) (_v7 : Int) (_v8 : Int) (_v9 : Int) (_v10 : Int) (_v11 : Int) (_v12 : Int) (_v13 : Int) (_v14 : Int) (_v15 : Int) (_v16 : Int) (_v17 : Int) (_v18 : Int) (_v19 : Int) (_v20 : Int) (_v21 : Int) (_v22 : Int) (_v23 : Int) (_v24 : Int) (_v25 : Int) : Option (List (TV E)) :=
  bif (bif (decide (v1 < (0 : Int))) then true else (decide ((64 : Int) < v1))) then some [⟨.bool, true⟩] else (bif (decide ((0 : Int) ≤ (w64 ((4 : Int) * v1))) && decide ((w64 ((4 : Int) * v1)) ≤ (w64 ((4 : Int) * v1))) && decide ((w64 ((4 : Int) * v1)) * (1 : Int) ≤ maxBytes)) then G 1 (ljoins_C1 v1 (Int.toNat (w64 ((4 : Int) * v1))) (0 : Int) (List.replicate (Int.toNat (w64 ((4 : Int) * v1))) false)) else none)
theorem ljoins_l0_4 (G : Nat → ASt E → Option (List (TV E))) (v0 : List Bool) (v1 : Int) (v2 : Int) (v3 : Int) (v4 : Int) (v5 : Int) (v6 : Int) (v7 : Int) (v8 : Int) (v9 : Int) (v10 : Int) (v11 : Int) (v12 : Int) (v13 : Int) (v14 : Int) (v15 : Int) (v16 : Int) (v17 : Int) (v18 : Int) (v19 : Int) (v20 : Int) (v21 : Int) (v22 : Int) (v23 : Int) (v24 : Int) (v25 : Int) : runL ljoins_O ljoins_H G Try.f6 0 (ljoins_C0_4 v0 v1 v2 v3 v4 v5 v6 v7 v8 v9 v10 v11 v12 v13 v14 v15 v16 v17 v18 v19 v20 v21 v22 v23 v24 v25) = ljoins_t0_4 G v0 v1 v2 v3 v4 v5 v6 v7 v8 v9 v10 v11 v12 v13 v14 v15 v16 v17 v18 v19 v20 v21 v22 v23 v24 v25 := by kernel_rfl
noncomputable def ljoins_t1 (G : Nat → ASt E → Option (List (TV E))) (v0 : Int) (v1 : Nat) (v2 : Int) (v3 : List Bool) : Option (List (TV E)) :=
  bif (decide (v2 < ((v1 : Nat) : Int))) then (bif (decide ((0 : Int) ≤ v2) && decide (v2 < (v1 : Nat))) then G 1 (ljoins_C1 v0 v1 (w64 (v2 + (1 : Int))) (List.set v3 (Int.toNat v2) true)) else none) else (bif (decide ((0 : Int) ≤ v0) && decide (v0 ≤ v0) && decide (v0 * (1 : Int) ≤ maxBytes)) then (bif (small (List.replicate (Int.toNat v0) false)) then (bif ((small v3) || !((beat (List.replicate (Int.toNat v0) false)) == (0 : Int))) then some [⟨.bool, (bif (bif ((beat (List.replicate (Int.toNat v0) false)) == (0 : Int)) then ((beat v3) == (0 : Int)) else false) then true else false)⟩] else none) else none) else none)
theorem ljoins_l1 (G : Nat → ASt E → Option (List (TV E))) (v0 : Int) (v1 : Nat) (v2 : Int) (v3 : List Bool) : runL ljoins_O ljoins_H G Try.f6 1 (ljoins_C1 v0 v1 v2 v3) = ljoins_t1 G v0 v1 v2 v3 := by kernel_rfl
theorem ljoins_f : Try.prog.funcs[6]? = some Try.f6 := by kernel_rfl
theorem ljoins_n : (Try.f6.name == "runtime.NumGoroutine") = false := by kernel_rfl
theorem ljoins_b : Try.f6.body.isNone = false := by kernel_rfl
theorem ljoins_hO : OracleOk E ljoins_O := orac_ok (.cons awake_ok (.cons wbeat_ok (.cons wbins_ok (.cons wturn_ok .nil)))) .nil
theorem ljoins_s0_0 {res : List (TV E)} {v0 : List Bool} {v1 : Int} {v2 : Int} {v3 : Int} {v4 : Int} {v5 : Int} {v6 : Int} {v7 : Int} {v8 : Int} {v9 : Int} {v10 : Int} {v11 : Int} {v12 : Int} {v13 : Int} {v14 : Int} {v15 : Int} {v16 : Int} {v17 : Int} {v18 : Int} {v19 : Int} {v20 : Int} {v21 : Int} {v22 : Int} {v23 : Int} {v24 : Int} {v25 : Int} (h : ljoins_t0_0 (Gr E Try.f6 res) v0 v1 v2 v3 v4 v5 v6 v7 v8 v9 v10 v11 v12 v13 v14 v15 v16 v17 v18 v19 v20 v21 v22 v23 v24 v25 = some res) : Ev E Try.f6 res 0 (ljoins_C0_0 v0 v1 v2 v3 v4 v5 v6 v7 v8 v9 v10 v11 v12 v13 v14 v15 v16 v17 v18 v19 v20 v21 v22 v23 v24 v25) := Ev.step ljoins_hO mix ((ljoins_l0_0 _ v0 v1 v2 v3 v4 v5 v6 v7 v8 v9 v10 v11 v12 v13 v14 v15 v16 v17 v18 v19 v20 v21 v22 v23 v24 v25).trans h)
theorem ljoins_s0_1 {res : List (TV E)} {v0 : List Bool} {v1 : Int} {v2 : Int} {v3 : Int} {v4 : Int} {v5 : Int} {v6 : Int} {v7 : Int} {v8 : Int} {v9 : Int} {v10 : Int} {v11 : Int} {v12 : Int} {v13 : Int} {v14 : Int} {v15 : Int} {v16 : Int} {v17 : Int} {v18 : Int} {v19 : Int} {v20 : Int} {v21 : Int} {v22 : Int} {v23 : Int} {v24 : Int} {v25 : Int} (h : ljoins_t0_1 (Gr E Try.f6 res) v0 v1 v2 v3 v4 v5 v6 v7 v8 v9 v10 v11 v12 v13 v14 v15 v16 v17 v18 v19 v20 v21 v22 v23 v24 v25 = some res) : Ev E Try.f6 res 0 (ljoins_C0_1 v0 v1 v2 v3 v4 v5 v6 v7 v8 v9 v10 v11 v12 v13 v14 v15 v16 v17 v18 v19 v20 v21 v22 v23 v24 v25) := Ev.step ljoins_hO mix ((ljoins_l0_1 _ v0 v1 v2 v3 v4 v5 v6 v7 v8 v9 v10 v11 v12 v13 v14 v15 v16 v17 v18 v19 v20 v21 v22 v23 v24 v25).trans h)
theorem ljoins_s0_2 {res : List (TV E)} {v0 : List Bool} {v1 : Int} {v2 : Int} {v3 : Int} {v4 : Int} {v5 : Int} {v6 : Int} {v7 : Int} {v8 : Int} {v9 : Int} {v10 : Int} {v11 : Int} {v12 : Int} {v13 : Int} {v14 : Int} {v15 : Int} {v16 : Int} {v17 : Int} {v18 : Int} {v19 : Int} {v20 : Int} {v21 : Int} {v22 : Int} {v23 : Int} {v24 : Int} {v25 : Int} (h : ljoins_t0_2 (Gr E Try.f6 res) v0 v1 v2 v3 v4 v5 v6 v7 v8 v9 v10 v11 v12 v13 v14 v15 v16 v17 v18 v19 v20 v21 v22 v23 v24 v25 = some res) : Ev E Try.f6 res 0 (ljoins_C0_2 v0 v1 v2 v3 v4 v5 v6 v7 v8 v9 v10 v11 v12 v13 v14 v15 v16 v17 v18 v19 v20 v21 v22 v23 v24 v25) := Ev.step ljoins_hO mix ((ljoins_l0_2 _ v0 v1 v2 v3 v4 v5 v6 v7 v8 v9 v10 v11 v12 v13 v14 v15 v16 v17 v18 v19 v20 v21 v22 v23 v24 v25).trans h)
theorem ljoins_s0_3 {res : List (TV E)} {v0 : List Bool} {v1 : Int} {v2 : Int} {v3 : Int} {v4 : Int} {v5 : Int} {v6 : Int} {v7 : Int} {v8 : Int} {v9 : Int} {v10 : Int} {v11 : Int} {v12 : Int} {v13 : Int} {v14 : Int} {v15 : Int} {v16 : Int} {v17 : Int} {v18 : Int} {v19 : Int} {v20 : Int} {v21 : Int} {v22 : Int} {v23 : Int} {v24 : Int} {v25 : Int} (h : ljoins_t0_3 (Gr E Try.f6 res) v0 v1 v2 v3 v4 v5 v6 v7 v8 v9 v10 v11 v12 v13 v14 v15 v16 v17 v18 v19 v20 v21 v22 v23 v24 v25 = some res) : Ev E Try.f6 res 0 (ljoins_C0_3 v0 v1 v2 v3 v4 v5 v6 v7 v8 v9 v10 v11 v12 v13 v14 v15 v16 v17 v18 v19 v20 v21 v22 v23 v24 v25) := Ev.step ljoins_hO mix ((ljoins_l0_3 _ v0 v1 v2 v3 v4 v5 v6 v7 v8 v9 v10 v11 v12 v13 v14 v15 v16 v17 v18 v19 v20 v21 v22 v23 v24 v25).trans h)
theorem ljoins_s0_4 {res : List (TV E)} {v0 : List Bool} {v1 : Int} {v2 : Int} {v3 : Int} {v4 : Int} {v5 : Int} {v6 : Int} {v7 : Int} {v8 : Int} {v9 : Int} {v10 : Int} {v11 : Int} {v12 : Int} {v13 : Int} {v14 : Int} {v15 : Int} {v16 : Int} {v17 : Int} {v18 : Int} {v19 : Int} {v20 : Int} {v21 : Int} {v22 : Int} {v23 : Int} {v24 : Int} {v25 : Int} (h : ljoins_t0_4 (Gr E Try.f6 res) v0 v1 v2 v3 v4 v5 v6 v7 v8 v9 v10 v11 v12 v13 v14 v15 v16 v17 v18 v19 v20 v21 v22 v23 v24 v25 = some res) : Ev E Try.f6 res 0 (ljoins_C0_4 v0 v1 v2 v3 v4 v5 v6 v7 v8 v9 v10 v11 v12 v13 v14 v15 v16 v17 v18 v19 v20 v21 v22 v23 v24 v25) := Ev.step ljoins_hO mix ((ljoins_l0_4 _ v0 v1 v2 v3 v4 v5 v6 v7 v8 v9 v10 v11 v12 v13 v14 v15 v16 v17 v18 v19 v20 v21 v22 v23 v24 v25).trans h)
theorem ljoins_s1 {res : List (TV E)} {v0 : Int} {v1 : Nat} {v2 : Int} {v3 : List Bool} (h : ljoins_t1 (Gr E Try.f6 res) v0 v1 v2 v3 = some res) : Ev E Try.f6 res 1 (ljoins_C1 v0 v1 v2 v3) := Ev.step ljoins_hO mix ((ljoins_l1 _ v0 v1 v2 v3).trans h)
theorem ljoins_ok_of (h : ∀ (x0 : List Bool) (x1 : List Bool) (x2 : Int), ljoins_t (Gr E Try.f6 [⟨.bool, (fun _ _ _ => true) x0 x1 x2⟩]) x0 x1 x2 = some [⟨.bool, (fun _ _ _ => true) x0 x1 x2⟩]) : FnOk E ljoins_id ljoins_W := fn3_ok ljoins_hO mix ljoins_f ljoins_n ljoins_b (fun x0 x1 x2 _ => (ljoins_e _ x0 x1 x2).trans (h x0 x1 x2))
theorem ljoins_loop (n : Nat) (hn : n ≤ 64) : ∀ (m i : Nat), 4 * n - i = m → i ≤ 4 * n → Ev E Try.f6 [⟨.bool, true⟩] 1 (ljoins_C1 n (4 * n) i (List.replicate i true ++ List.replicate (4 * n - i) false)) := by
  have hm' : (maxBytes : Int) = 140737488355328 := rfl
  intro m
  induction m with
  | zero =>
    intro i h1 h2
    have e : i = 4 * n := by omega
    subst e
    refine ljoins_s1 ?_
    have s1 : small (List.replicate n false) = true := by simp only [small, List.length_replicate, decide_eq_true_eq]; omega
    have s2 : small (List.replicate (4 * n) true) = true := by simp only [small, List.length_replicate, decide_eq_true_eq]; omega
    simp only [ljoins_t1, Nat.sub_self, List.replicate_zero, List.append_nil, Int.toNat_natCast, s1, s2, beat_good n (by omega), beat_bad n hn]
    rw [gt_false (by omega), cond_false, show (decide ((0 : Int) ≤ (n : Int)) && decide ((n : Int) ≤ (n : Int)) && decide ((n : Int) * 1 ≤ (maxBytes : Int))) = true from by simp only [Bool.and_eq_true, decide_eq_true_eq]; omega]
    rfl
  | succ m ih =>
    intro i h1 h2
    refine ljoins_s1 ?_
    have e : List.set (List.replicate i true ++ List.replicate (4 * n - i) false) (Int.toNat (i : Int)) true = List.replicate (i + 1) true ++ List.replicate (4 * n - (i + 1)) false := by
      rw [Int.toNat_natCast, List.set_append_right _ _ (by simp), List.length_replicate, Nat.sub_self, show 4 * n - i = (4 * n - (i + 1)) + 1 from by omega, List.replicate_succ, List.set_cons_zero, List.replicate_succ', List.append_assoc]
      rfl
    simp only [ljoins_t1, e]
    rw [gt_true (by omega), cond_true, show decide ((0 : Int) ≤ (i : Int)) = true from by simp only [decide_eq_true_eq]; omega, w64_id (by omega) (by omega)]
    exact Gr_of (ih (i + 1) (by omega) (by omega))
theorem sum_ok {x y : C} (hx : bdC x 256) (hy : bdC y 256) : (sumOk x.1 && sumOk y.1 && (sumOk x.2 && sumOk y.2)) = true ∧ fltOk (x.1 + y.1) = true ∧ fltOk (x.2 + y.2) = true := by
  unfold bdC at hx hy
  rw [sumOk_of (by omega) (by omega), sumOk_of (by omega) (by omega), sumOk_of (by omega) (by omega), sumOk_of (by omega) (by omega)]
  exact ⟨rfl, fltOk_of (by omega) (by omega), fltOk_of (by omega) (by omega)⟩
theorem ljoins_ok : FnOk E ljoins_id ljoins_W := ljoins_ok_of fun a b n => by
  have hm' : maxBytes = 140737488355328 := rfl
  have hm'' : (maxBytes : Int) = 140737488355328 := rfl
  simp only [ljoins_t]
  by_cases hl : a.length + b.length ≤ 256
  · rw [gt_false (by omega), cond_false, w64_id (by omega) (by omega), gt_false (by omega), cond_false, show decide (a.length * 1 ≤ maxBytes) = true from by simp only [decide_eq_true_eq]; omega, show decide ((a.length + b.length) * 1 ≤ maxBytes) = true from by simp only [decide_eq_true_eq]; omega]
    have s1 : small a = true := by simp only [small, decide_eq_true_eq]; omega
    have s2 : small b = true := by simp only [small, decide_eq_true_eq]; omega
    have s3 : small (a ++ b) = true := by simp only [small, decide_eq_true_eq, List.length_append]; omega
    simp only [s1, s2, s3, cond_true, bins]
    have one : ∀ k : Int, okC (bin b k) = true ∧ (sumOk (bin a k).1 && sumOk (turnZ (bin b k) (-(k * a.length))).1 && (sumOk (bin a k).2 && sumOk (turnZ (bin b k) (-(k * a.length))).2)) = true ∧
        (fltOk (bin (a ++ b) k).1 && fltOk ((bin a k).1 + (turnZ (bin b k) (-(k * a.length))).1) && (fltOk (bin (a ++ b) k).2 && fltOk ((bin a k).2 + (turnZ (bin b k) (-(k * a.length))).2))) = true ∧
        ((bin (a ++ b) k).1 == (bin a k).1 + (turnZ (bin b k) (-(k * a.length))).1 && (bin (a ++ b) k).2 == (bin a k).2 + (turnZ (bin b k) (-(k * a.length))).2) = true := by
      intro k
      have hs := sum_ok (bin_bd a k) (bd_turn (-(k * a.length)) (bin_bd b k))
      have ho := okC_bin (a ++ b) k
      simp only [okC, Bool.and_eq_true] at ho
      have hj := bin_app a b k hl
      refine ⟨okC_bin b k, hs.1, by rw [ho.1, ho.2, hs.2.1, hs.2.2]; rfl, ?_⟩
      rw [hj]
      simp [addC]
    have q0 := rneg 0 a.length (by decide) (by decide) (by omega)
    have q1 := rneg 1 a.length (by decide) (by decide) (by omega)
    have q2 := rneg 2 a.length (by decide) (by decide) (by omega)
    have q3 := rneg 3 a.length (by decide) (by decide) (by omega)
    obtain ⟨a0, b0, c0, d0⟩ := one 0
    obtain ⟨a1, b1, c1, d1⟩ := one 1
    obtain ⟨a2, b2, c2, d2⟩ := one 2
    obtain ⟨a3, b3, c3, d3⟩ := one 3
    refine Gr_of (ljoins_s0_0 ?_)
    simp only [ljoins_t0_0, Prod.eta, q0, a0, b0, c0, d0, cond_true, cond_false, Bool.not_true]
    refine Gr_of (ljoins_s0_1 ?_)
    simp only [ljoins_t0_1, Prod.eta, q1, a1, b1, c1, d1, cond_true, cond_false, Bool.not_true]
    refine Gr_of (ljoins_s0_2 ?_)
    simp only [ljoins_t0_2, Prod.eta, q2, a2, b2, c2, d2, cond_true, cond_false, Bool.not_true]
    refine Gr_of (ljoins_s0_3 ?_)
    simp only [ljoins_t0_3, Prod.eta, q3, a3, b3, c3, d3, cond_true, cond_false, Bool.not_true]
    refine Gr_of (ljoins_s0_4 ?_)
    simp only [ljoins_t0_4]
    by_cases hn : n < 0 ∨ 64 < n
    · rw [show (bif decide (n < 0) then true else decide (64 < n)) = true from by simp only [Bool.cond_true_left, Bool.or_eq_true, decide_eq_true_eq]; omega, cond_true]
    · obtain ⟨k, rfl⟩ : ∃ k : Nat, n = k := ⟨n.toNat, by omega⟩
      rw [gt_false (by omega), cond_false, gt_false (by omega), cond_false, w64_id (by omega) (by omega)]
      rw [show (decide ((0 : Int) ≤ 4 * (k : Int)) && decide (4 * (k : Int) ≤ 4 * (k : Int)) && decide (4 * (k : Int) * 1 ≤ (maxBytes : Int))) = true from by simp only [Bool.and_eq_true, decide_eq_true_eq]; omega, cond_true]
      have := ljoins_loop k (by omega) (4 * k) 0 (by omega) (by omega)
      rw [List.replicate_zero, List.nil_append, Nat.sub_zero] at this
      rw [show Int.toNat (4 * (k : Int)) = 4 * k from by omega]
      exact Gr_of this
  · have : (bif (decide ((256 : Int) < (a.length : Int))) then true else (decide ((w64 ((256 : Int) - (a.length : Int))) < (b.length : Int)))) = true := by
      by_cases h1 : 256 < a.length
      · rw [gt_true (by omega), cond_true]
      · rw [w64_id (by omega) (by omega)]
        simp only [Bool.cond_true_left, Bool.or_eq_true, decide_eq_true_eq]
        omega
    rw [this, cond_true]
end Go.Proofs.Ytnkdghkliihnaaa.Wv
