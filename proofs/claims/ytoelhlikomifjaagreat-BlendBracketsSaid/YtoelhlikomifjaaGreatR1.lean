/- The reference's numbers (01), and the library's and the program's lists of texts, by the Mirror. -/
import Derived.Test.YtoelhlikomifjaaGreatMirR
import Derived.Test.YtoelhlikomifjaaGreatMirU
import Derived.Test.YtoelhlikomifjaaGreatRows
import Derived.Test.YtoelhlikomifjaaGreatShelf
import Derived.Test.YtoelhlikomifjaaGreatPlain
import Derived.Sort.OwnSorted
import Derived.Lib.AppendZeros
namespace Go.Proofs.YtoelhlikomifjaaGreat.Rf
open Go Go.RowKit Go.Sort Go.Proofs.YtoelhlikomifjaaGreat.Mir
structure Node where
  kind : Int
  text : List UInt8
  keys : List (List UInt8)
  kids : List Node
structure Formed where
  n : Node
  path : List UInt8
  e : Int
structure Mount where
  source : List UInt8
  target : List UInt8
  readOnly : Bool
structure Port where
  host : List UInt8
  out : Int
  in_ : Int
  proto : List UInt8
structure Arr121 where
  e0 : Int
  e1 : Int
  e2 : Int
  e3 : Int
structure Arr125 where
  e0 : List UInt8
  e1 : List UInt8
  e2 : List UInt8
  e3 : List UInt8
inductive Ty where
  | int | str | l_str | l_api_Node | api_Node | bool | api_Errno | ref19_Formed | byte | l_l_str | fn32 | api_Mount | api_Port | u64 | a4_int | a4_str | l_byte | u6464
  deriving DecidableEq
abbrev Den : Ty → Type
  | .int => Int
  | .str => List UInt8
  | .l_str => List (List UInt8)
  | .l_api_Node => List Node
  | .api_Node => Node
  | .bool => Bool
  | .api_Errno => Int
  | .ref19_Formed => Formed
  | .byte => Int
  | .l_l_str => List (List (List UInt8))
  | .fn32 => Nat
  | .api_Mount => Mount
  | .api_Port => Port
  | .u64 => Int
  | .a4_int => Arr121
  | .a4_str => Arr125
  | .l_byte => List Int
  | .u6464 => Int
def tid : Ty → TypeId
  | .int => 3
  | .str => 9
  | .l_str => 22
  | .l_api_Node => 23
  | .api_Node => 25
  | .bool => 4
  | .api_Errno => 28
  | .ref19_Formed => 30
  | .byte => 5
  | .l_l_str => 58
  | .fn32 => 32
  | .api_Mount => 76
  | .api_Port => 104
  | .u64 => 99
  | .a4_int => 121
  | .a4_str => 125
  | .l_byte => 127
  | .u6464 => 64
def code : TypeId → Option Ty
  | 3 => some .int
  | 9 => some .str
  | 22 => some .l_str
  | 23 => some .l_api_Node
  | 25 => some .api_Node
  | 4 => some .bool
  | 28 => some .api_Errno
  | 30 => some .ref19_Formed
  | 5 => some .byte
  | 58 => some .l_l_str
  | 32 => some .fn32
  | 76 => some .api_Mount
  | 104 => some .api_Port
  | 99 => some .u64
  | 121 => some .a4_int
  | 125 => some .a4_str
  | 127 => some .l_byte
  | 64 => some .u6464
  | _ => none
def agg : Ty → Bool
  | .int => false
  | .str => false
  | .l_str => false
  | .l_api_Node => false
  | .api_Node => true
  | .bool => false
  | .api_Errno => false
  | .ref19_Formed => true
  | .byte => false
  | .l_l_str => false
  | .fn32 => false
  | .api_Mount => true
  | .api_Port => true
  | .u64 => false
  | .a4_int => true
  | .a4_str => true
  | .l_byte => false
  | .u6464 => false
def size : Ty → Nat
  | .int => 1
  | .str => 1
  | .l_str => 1
  | .l_api_Node => 1
  | .api_Node => 4
  | .bool => 1
  | .api_Errno => 1
  | .ref19_Formed => 6
  | .byte => 1
  | .l_l_str => 1
  | .fn32 => 1
  | .api_Mount => 3
  | .api_Port => 4
  | .u64 => 1
  | .a4_int => 4
  | .a4_str => 4
  | .l_byte => 1
  | .u6464 => 1
def bytes : Ty → Nat
  | .int => 8
  | .str => 16
  | .l_str => 24
  | .l_api_Node => 24
  | .api_Node => 72
  | .bool => 1
  | .api_Errno => 8
  | .ref19_Formed => 96
  | .byte => 1
  | .l_l_str => 24
  | .fn32 => 8
  | .api_Mount => 40
  | .api_Port => 48
  | .u64 => 8
  | .a4_int => 32
  | .a4_str => 64
  | .l_byte => 24
  | .u6464 => 8
def cells : (t : Ty) → Den t → List (DVal Den)
  | .int, x => [.int .i64 x]
  | .str, x => [.str x]
  | .l_str, x => [.slice .str x]
  | .l_api_Node, x => [.slice .api_Node x]
  | .api_Node, x => [.int .i64 x.kind, .str x.text, .slice .str x.keys, .slice .api_Node x.kids]
  | .bool, x => [.bool x]
  | .api_Errno, x => [.int .i64 x]
  | .ref19_Formed, x => [.int .i64 x.n.kind, .str x.n.text, .slice .str x.n.keys, .slice .api_Node x.n.kids, .str x.path, .int .i64 x.e]
  | .byte, x => [.int .u8 x]
  | .l_l_str, x => [.slice .l_str x]
  | .fn32, x => [.raw (.func (.func x) #[] #[])]
  | .api_Mount, x => [.str x.source, .str x.target, .bool x.readOnly]
  | .api_Port, x => [.str x.host, .int .i64 x.out, .int .i64 x.in_, .str x.proto]
  | .u64, x => [.int .u64 x]
  | .a4_int, x => [.int .i64 x.e0, .int .i64 x.e1, .int .i64 x.e2, .int .i64 x.e3]
  | .a4_str, x => [.str x.e0, .str x.e1, .str x.e2, .str x.e3]
  | .l_byte, x => [.slice .byte x]
  | .u6464, x => [.int .u64 x]
def dec : DecidableEq Ty := inferInstance
def fold : (t : Ty) → List (DVal Den) → Option (Den t)
  | .int, [c] => dInt .i64 c
  | .str, [c] => dStr c
  | .l_str, [c] => dSl dec .str c
  | .l_api_Node, [c] => dSl dec .api_Node c
  | .api_Node, [c0, c1, c2, c3] => match dInt .i64 c0, dStr c1, dSl dec .str c2, dSl dec .api_Node c3 with | some y0, some y1, some y2, some y3 => some (⟨y0, y1, y2, y3⟩ : Node) | _, _, _, _ => none
  | .bool, [c] => dBl c
  | .api_Errno, [c] => dInt .i64 c
  | .ref19_Formed, [c0, c1, c2, c3, c4, c5] => match dInt .i64 c0, dStr c1, dSl dec .str c2, dSl dec .api_Node c3, dStr c4, dInt .i64 c5 with | some y0, some y1, some y2, some y3, some y4, some y5 => some (⟨(⟨y0, y1, y2, y3⟩ : Node), y4, y5⟩ : Formed) | _, _, _, _, _, _ => none
  | .byte, [c] => dInt .u8 c
  | .l_l_str, [c] => dSl dec .l_str c
  | .fn32, [c] => dFn c
  | .api_Mount, [c0, c1, c2] => match dStr c0, dStr c1, dBl c2 with | some y0, some y1, some y2 => some (⟨y0, y1, y2⟩ : Mount) | _, _, _ => none
  | .api_Port, [c0, c1, c2, c3] => match dStr c0, dInt .i64 c1, dInt .i64 c2, dStr c3 with | some y0, some y1, some y2, some y3 => some (⟨y0, y1, y2, y3⟩ : Port) | _, _, _, _ => none
  | .u64, [c] => dInt .u64 c
  | .a4_int, [c0, c1, c2, c3] => match dInt .i64 c0, dInt .i64 c1, dInt .i64 c2, dInt .i64 c3 with | some y0, some y1, some y2, some y3 => some (⟨y0, y1, y2, y3⟩ : Arr121) | _, _, _, _ => none
  | .a4_str, [c0, c1, c2, c3] => match dStr c0, dStr c1, dStr c2, dStr c3 with | some y0, some y1, some y2, some y3 => some (⟨y0, y1, y2, y3⟩ : Arr125) | _, _, _, _ => none
  | .l_byte, [c] => dSl dec .byte c
  | .u6464, [c] => dInt .u64 c
  | _, _ => none
def dflt : (t : Ty) → Den t
  | .int => (0 : Int)
  | .str => []
  | .l_str => []
  | .l_api_Node => []
  | .api_Node => ⟨(0 : Int), [], [], []⟩
  | .bool => false
  | .api_Errno => (0 : Int)
  | .ref19_Formed => ⟨⟨(0 : Int), [], [], []⟩, [], (0 : Int)⟩
  | .byte => (0 : Int)
  | .l_l_str => []
  | .fn32 => (0 : Nat)
  | .api_Mount => ⟨[], [], false⟩
  | .api_Port => ⟨[], (0 : Int), (0 : Int), []⟩
  | .u64 => (0 : Int)
  | .a4_int => ⟨(0 : Int), (0 : Int), (0 : Int), (0 : Int)⟩
  | .a4_str => ⟨[], [], [], []⟩
  | .l_byte => []
  | .u6464 => (0 : Int)
def byteT : (t : Ty) → Option (Den t → Int)
  | .byte => some fun x => x
  | _ => none
theorem byte_ok : ∀ t f, byteT t = some f → ∀ x, cells t x = [.int .u8 (f x)] := by
  intro t f h x
  cases t <;> first | (cases h; rfl) | cases h
theorem fold_ok : ∀ t cs x, fold t cs = some x → CsLe cs (cells t x) := by
  intro t cs x h
  cases t
  case int => match cs, h with | [c], h => exact ⟨dInt_le h, trivial⟩
  case str => match cs, h with | [c], h => exact ⟨dStr_le h, trivial⟩
  case l_str => match cs, h with | [c], h => exact ⟨dSl_le h, trivial⟩
  case l_api_Node => match cs, h with | [c], h => exact ⟨dSl_le h, trivial⟩
  case api_Node =>
    match cs, h with
    | [c0, c1, c2, c3], h =>
      simp only [fold] at h
      split at h
      · rename_i h0 h1 h2 h3; cases h; exact ⟨dInt_le h0, dStr_le h1, dSl_le h2, dSl_le h3, trivial⟩
      · cases h
  case bool => match cs, h with | [c], h => exact ⟨dBl_le h, trivial⟩
  case api_Errno => match cs, h with | [c], h => exact ⟨dInt_le h, trivial⟩
  case ref19_Formed =>
    match cs, h with
    | [c0, c1, c2, c3, c4, c5], h =>
      simp only [fold] at h
      split at h
      · rename_i h0 h1 h2 h3 h4 h5; cases h; exact ⟨dInt_le h0, dStr_le h1, dSl_le h2, dSl_le h3, dStr_le h4, dInt_le h5, trivial⟩
      · cases h
  case byte => match cs, h with | [c], h => exact ⟨dInt_le h, trivial⟩
  case l_l_str => match cs, h with | [c], h => exact ⟨dSl_le h, trivial⟩
  case fn32 => match cs, h with | [c], h => exact ⟨dFn_le h, trivial⟩
  case api_Mount =>
    match cs, h with
    | [c0, c1, c2], h =>
      simp only [fold] at h
      split at h
      · rename_i h0 h1 h2; cases h; exact ⟨dStr_le h0, dStr_le h1, dBl_le h2, trivial⟩
      · cases h
  case api_Port =>
    match cs, h with
    | [c0, c1, c2, c3], h =>
      simp only [fold] at h
      split at h
      · rename_i h0 h1 h2 h3; cases h; exact ⟨dStr_le h0, dInt_le h1, dInt_le h2, dStr_le h3, trivial⟩
      · cases h
  case u64 => match cs, h with | [c], h => exact ⟨dInt_le h, trivial⟩
  case a4_int =>
    match cs, h with
    | [c0, c1, c2, c3], h =>
      simp only [fold] at h
      split at h
      · rename_i h0 h1 h2 h3; cases h; exact ⟨dInt_le h0, dInt_le h1, dInt_le h2, dInt_le h3, trivial⟩
      · cases h
  case a4_str =>
    match cs, h with
    | [c0, c1, c2, c3], h =>
      simp only [fold] at h
      split at h
      · rename_i h0 h1 h2 h3; cases h; exact ⟨dStr_le h0, dStr_le h1, dStr_le h2, dStr_le h3, trivial⟩
      · cases h
  case l_byte => match cs, h with | [c], h => exact ⟨dSl_le h, trivial⟩
  case u6464 => match cs, h with | [c], h => exact ⟨dInt_le h, trivial⟩
theorem code_ok : ∀ i t, code i = some t → i = tid t := by
  intro i t h
  unfold code at h
  split at h <;> first | (cases h; rfl) | cases h
theorem info_ok : ∀ t, ∃ i z, Tryz.prog.info? (tid t) = some i ∧ i.size = size t ∧ i.bytes = bytes t ∧ i.zero = some z ∧ z.cells.size = size t := by
  intro t
  refine info_of ?_ rfl
  cases t <;> kernel_rfl
theorem agg_ok : ∀ t, isAggT Tryz.prog (tid t) = agg t := by intro t; cases t <;> kernel_rfl
theorem und_ok : ∀ t, (Tryz.prog.underlying (tid t)).isSome = true := by intro t; cases t <;> kernel_rfl
abbrev E : Env Tryz.prog where
  Ty := Ty
  dec := dec
  Den := Den
  tid := tid
  code := code
  agg := agg
  size := size
  bytes := bytes
  cells := cells
  fold := fold
  code_ok := code_ok
  info_ok := info_ok
  agg_ok := agg_ok
  und_ok := und_ok
  size_pos := by intro t; cases t <;> decide
  bytes_pos := by intro t; cases t <;> decide
  one := by intro t h; cases t <;> first | rfl | cases h
  cells_len := by intro t x; cases t <;> rfl
  dflt := dflt
  fold_ok := fold_ok
  byteT := byteT
  byte_ok := byte_ok
theorem mix : Tryz.prog.follows .mixedOrders = true := by kernel_rfl
def w64 (n : Int) : Int := IntKind.wrap .i64 n
/-! ### Small facts -/
theorem w64_id {n : Int} (h : -9223372036854775808 ≤ n) (h' : n ≤ 9223372036854775807) : w64 n = n := by
  unfold w64
  rw [IntKind.wrap_i64]
  omega
theorem gd {α : Type} (l : List α) (d : α) (i : Nat) (h : i < l.length) : List.getD l (Int.toNat (i : Int)) d = l[i] := by
  rw [Int.toNat_natCast, List.getD, List.getElem?_eq_getElem h]; rfl
theorem d0 (i : Nat) : decide ((0 : Int) ≤ (i : Int)) = true := by simp
theorem dlt {i n : Nat} (h : i < n) : decide ((i : Int) < (n : Int)) = true := by simp only [decide_eq_true_eq]; omega
theorem dge {i n : Nat} (h : n ≤ i) : decide ((i : Int) < (n : Int)) = false := by simp only [decide_eq_false_iff_not]; omega
theorem dT {p : Prop} [Decidable p] (h : p) : decide p = true := decide_eq_true h
theorem dF {p : Prop} [Decidable p] (h : ¬ p) : decide p = false := decide_eq_false h
theorem neT {a b : Int} (h : a ≠ b) : (a != b) = true := by simpa using h
theorem neF {a b : Int} (h : a = b) : (a != b) = false := by simp [h]
theorem eqT {a b : Int} (h : a = b) : (a == b) = true := by simp [h]
theorem eqF {a b : Int} (h : a ≠ b) : (a == b) = false := by simpa using h
theorem mb : maxBytes = 140737488355328 := rfl
/-! ### The reference's digits (01) -/
theorem wu64 (n : Int) : IntKind.wrap .u64 n = n % 18446744073709551616 := by simp [IntKind.wrap, IntKind.bits, IntKind.signed]
theorem wu8 (n : Int) : IntKind.wrap .u8 n = n % 256 := by simp [IntKind.wrap, IntKind.bits, IntKind.signed]
theorem u64_id {n : Int} (h : 0 ≤ n) (h' : n < 18446744073709551616) : IntKind.wrap .u64 n = n := by rw [wu64]; omega
theorem u8_id {n : Int} (h : 0 ≤ n) (h' : n < 256) : IntKind.wrap .u8 n = n := by rw [wu8]; omega
theorem ms : maxStr = 4611686018427387904 := rfl
theorem dAnd {p q : Prop} [Decidable p] [Decidable q] : (decide p && decide q) = decide (p ∧ q) := by simp
def dg (n : Nat) : UInt8 := UInt8.ofNat (48 + n)
/-- The digits of a number. -/
def digsF : Nat → Nat → List UInt8
  | 0, _ => []
  | f + 1, u => if u < 10 then [dg u] else digsF f (u / 10) ++ [dg (u % 10)]
def digs (u : Nat) : List UInt8 := digsF 20 u
theorem digsF_len : ∀ (f u : Nat), (digsF f u).length ≤ f
  | 0, _ => Nat.le_refl _
  | f + 1, u => by
    unfold digsF
    split
    · simp
    · have := digsF_len f (u / 10)
      rw [List.length_append, List.length_singleton]; omega
def digitsV (u : Int) : List UInt8 := digs u.toNat
def textV (n : Int) : List UInt8 := bif decide (n < 0) then 45 :: digs (-n).toNat else digs n.toNat
theorem textV_len (n : Int) : (textV n).length ≤ 21 := by
  unfold textV digs
  cases decide (n < 0) with
  | true => have := digsF_len 20 (-n).toNat; simp only [cond_true, List.length_cons]; omega
  | false => have := digsF_len 20 n.toNat; simp only [cond_false]; omega
def okU (u : Int) : Bool := decide (0 ≤ u ∧ u < 18446744073709551616)
noncomputable def rdigits_W : FnW E := fn1 (E := E) .u64 .str okU digitsV
def rdigits_id : FuncId := 100
noncomputable def rdigits_O : Oracle E := orac [] [] [] []
noncomputable def rdigits_H : Hint E := Hint.mk [(0, [0, 3])] [] [] [] []
noncomputable def rdigits_C0 (v0 : Int) (v1 : List UInt8) : ASt E := ASt.mk 23 [(0, .d (.int .u64 v0)), (3, .d (.str v1))] [] 0
noncomputable def rdigits_t (G : Nat → ASt E → Option (List (TV E))) (x0 : Int) : Option (List (TV E)) :=
  G 0 (rdigits_C0 x0 ([] : List UInt8))
theorem rdigits_e (G : Nat → ASt E → Option (List (TV E))) (x0 : Int) : runE rdigits_O rdigits_H G Tryz.f100 [⟨.u64, x0⟩] = rdigits_t G x0 := by kernel_rfl
noncomputable def rdigits_t0 (G : Nat → ASt E → Option (List (TV E))) (v0 : Int) (v1 : List UInt8) : Option (List (TV E)) :=
  bif (decide ((10 : Int) ≤ v0)) then (bif (!((10 : Int) == (0 : Int))) then (bif (decide ((List.map (fun y => UInt8.ofNat (Int.toNat y)) ([(IntKind.wrap .u8 (IntKind.wrap .u64 ((48 : Int) + (Int.tmod v0 (10 : Int)))))] : List Int)).length + v1.length ≤ maxStr)) then (bif (!((10 : Int) == (0 : Int))) then G 0 (rdigits_C0 (IntKind.wrap .u64 (Int.tdiv v0 (10 : Int))) ((List.map (fun y => UInt8.ofNat (Int.toNat y)) ([(IntKind.wrap .u8 (IntKind.wrap .u64 ((48 : Int) + (Int.tmod v0 (10 : Int)))))] : List Int)) ++ v1)) else none) else none) else none) else (bif (decide ((List.map (fun y => UInt8.ofNat (Int.toNat y)) ([(IntKind.wrap .u8 (IntKind.wrap .u64 ((48 : Int) + v0)))] : List Int)).length + v1.length ≤ maxStr)) then some [⟨.str, ((List.map (fun y => UInt8.ofNat (Int.toNat y)) ([(IntKind.wrap .u8 (IntKind.wrap .u64 ((48 : Int) + v0)))] : List Int)) ++ v1)⟩] else none)
theorem rdigits_l0 (G : Nat → ASt E → Option (List (TV E))) (v0 : Int) (v1 : List UInt8) : runL rdigits_O rdigits_H G Tryz.f100 0 (rdigits_C0 v0 v1) = rdigits_t0 G v0 v1 := by kernel_rfl
theorem rdigits_f : Tryz.prog.funcs[100]? = some Tryz.f100 := by kernel_rfl
theorem rdigits_n : (Tryz.f100.name == "runtime.NumGoroutine") = false := by kernel_rfl
theorem rdigits_b : Tryz.f100.body.isNone = false := by kernel_rfl
theorem rdigits_ex : ∃ fn, Tryz.prog.funcs[100]? = some fn ∧ (fn.name == "runtime.NumGoroutine") = false ∧ fn.body.isNone = false := ⟨Tryz.f100, rdigits_f, rdigits_n, rdigits_b⟩
theorem rdigits_hO : OracleOk E rdigits_O := orac_ok .nil .nil .nil .nil
theorem rdigits_s0 {res : List (TV E)} {v0 : Int} {v1 : List UInt8} (h : rdigits_t0 (Gr E Tryz.f100 res) v0 v1 = some res) : Ev E Tryz.f100 res 0 (rdigits_C0 v0 v1) := Ev.step rdigits_hO mix ((rdigits_l0 _ v0 v1).trans h)
theorem rdigits_ok_of (h : ∀ (x0 : Int), okU x0 = true → rdigits_t (Gr E Tryz.f100 [⟨.str, digitsV x0⟩]) x0 = some [⟨.str, digitsV x0⟩]) : FnOk E rdigits_id rdigits_W := fn1_ok rdigits_hO mix rdigits_f rdigits_n rdigits_b (fun x0 hk => (rdigits_e _ x0).trans (h x0 hk))
theorem dg_eq {n : Int} (h : 0 ≤ n) (h' : n < 10) : UInt8.ofNat (Int.toNat (IntKind.wrap .u8 (IntKind.wrap .u64 (48 + n)))) = dg n.toNat := by
  rw [u64_id (by omega) (by omega), u8_id (by omega) (by omega)]
  unfold dg
  rw [show (48 + n).toNat = 48 + n.toNat from by omega]
theorem rdigits_0 : ∀ (f u : Nat) (s : List UInt8), 1 ≤ f → u < 10 ^ f → u < 18446744073709551616 → s.length ≤ 1000 → s.length + f ≤ 1000 →
    Ev E Tryz.f100 [⟨.str, digsF f u ++ s⟩] 0 (rdigits_C0 u s) := by
  intro f
  induction f with
  | zero => intro u s h; omega
  | succ f ih =>
    intro u s h1 h2 h3 h4 h5
    refine rdigits_s0 ?_
    simp only [rdigits_t0, List.map_cons, List.map_nil, List.length_singleton]
    rw [dT (show 1 + s.length ≤ maxStr by rw [ms]; omega)]
    unfold digsF
    by_cases hu : u < 10
    · rw [dF (by omega), cond_false, cond_true, if_pos hu, dg_eq (by omega) (by omega), Int.toNat_natCast]
    · rw [dT (by omega), cond_true, show (!((10 : Int) == 0)) = true from rfl, cond_true, cond_true, cond_true, if_neg hu]
      have e1 : Int.tmod (u : Int) 10 = ((u % 10 : Nat) : Int) := rfl
      have e2 : Int.tdiv (u : Int) 10 = ((u / 10 : Nat) : Int) := rfl
      rw [e1, e2, dg_eq (by omega) (by omega), u64_id (by omega) (by omega), Int.toNat_natCast]
      have h10 : 10 ^ (f + 1) = 10 * 10 ^ f := by rw [Nat.pow_succ, Nat.mul_comm]
      have hf : 1 ≤ f := by
        rcases Nat.eq_zero_or_pos f with rfl | h
        · omega
        · exact h
      have := Gr_of (ih (u / 10) ([dg (u % 10)] ++ s) hf (by omega) (by omega) (by simp; omega) (by simp; omega))
      rw [← List.append_assoc] at this
      exact this
theorem rdigits_ok : FnOk E rdigits_id rdigits_W := rdigits_ok_of fun u hk => by
  have hk : 0 ≤ u ∧ u < 18446744073709551616 := by simpa [okU] using hk
  obtain ⟨n, rfl⟩ : ∃ n : Nat, u = n := ⟨u.toNat, by omega⟩
  simp only [rdigits_t, digitsV, Int.toNat_natCast, digs]
  have := Gr_of (rdigits_0 20 n [] (by omega) (by have : (10 : Nat) ^ 20 = 100000000000000000000 := by decide
                                                  omega) (by omega) (by simp) (by simp))
  rw [List.append_nil] at this
  exact this
def okI (n : Int) : Bool := decide (-9223372036854775808 ≤ n ∧ n ≤ 9223372036854775807)
noncomputable def rtext_W : FnW E := fn1 (E := E) .int .str okI textV
def rtext_id : FuncId := 74
noncomputable def rtext_O : Oracle E := orac [(100, rdigits_W)] [] [] []
noncomputable def rtext_H : Hint E := Hint.mk [] [] [] [] []
noncomputable def rtext_t (_G : Nat → ASt E → Option (List (TV E))) (x0 : Int) : Option (List (TV E)) :=
  bif (decide (x0 < (0 : Int))) then (bif (okU (IntKind.wrap .u64 ((0 : Int) - (IntKind.wrap .u64 x0)))) then (bif (decide (([45] : List UInt8).length + (digitsV (IntKind.wrap .u64 ((0 : Int) - (IntKind.wrap .u64 x0)))).length ≤ maxStr)) then some [⟨.str, (([45] : List UInt8) ++ (digitsV (IntKind.wrap .u64 ((0 : Int) - (IntKind.wrap .u64 x0)))))⟩] else none) else none) else (bif (okU (IntKind.wrap .u64 x0)) then some [⟨.str, (digitsV (IntKind.wrap .u64 x0))⟩] else none)
theorem rtext_e (G : Nat → ASt E → Option (List (TV E))) (x0 : Int) : runE rtext_O rtext_H G Tryz.f74 [⟨.int, x0⟩] = rtext_t G x0 := by kernel_rfl
theorem rtext_f : Tryz.prog.funcs[74]? = some Tryz.f74 := by kernel_rfl
theorem rtext_n : (Tryz.f74.name == "runtime.NumGoroutine") = false := by kernel_rfl
theorem rtext_b : Tryz.f74.body.isNone = false := by kernel_rfl
theorem rtext_ex : ∃ fn, Tryz.prog.funcs[74]? = some fn ∧ (fn.name == "runtime.NumGoroutine") = false ∧ fn.body.isNone = false := ⟨Tryz.f74, rtext_f, rtext_n, rtext_b⟩
theorem rtext_hO : OracleOk E rtext_O := orac_ok (.cons rdigits_ok .nil) .nil .nil .nil
theorem rtext_ok_of (h : ∀ (x0 : Int), okI x0 = true → rtext_t (Gr E Tryz.f74 [⟨.str, textV x0⟩]) x0 = some [⟨.str, textV x0⟩]) : FnOk E rtext_id rtext_W := fn1_ok rtext_hO mix rtext_f rtext_n rtext_b (fun x0 hk => (rtext_e _ x0).trans (h x0 hk))
theorem rtext_ok : FnOk E rtext_id rtext_W := rtext_ok_of fun n hk => by
  have hk : -9223372036854775808 ≤ n ∧ n ≤ 9223372036854775807 := by simpa [okI] using hk
  simp only [rtext_t, textV]
  by_cases h : n < 0
  · have e : IntKind.wrap .u64 ((0 : Int) - IntKind.wrap .u64 n) = -n := by rw [wu64, wu64]; omega
    have hl : (digitsV (-n)).length ≤ 20 := digsF_len 20 _
    have ho : okU (-n) = true := by simp [okU]; omega
    rw [dT h, e]
    simp only [cond_true, ho]
    rw [dT (show [(45 : UInt8)].length + (digitsV (-n)).length ≤ maxStr by rw [ms, List.length_singleton]; omega)]
    rfl
  · have ho : okU n = true := by simp [okU]; omega
    have e : IntKind.wrap .u64 n = n := u64_id (by omega) (by omega)
    rw [dF h, e]
    simp only [cond_false, ho, cond_true]
    rfl
/-! Whole numbers' texts -/
def isD (c : UInt8) : Bool := decide (48 ≤ c.toNat) && decide (c.toNat ≤ 57)
def lead0 (s : List UInt8) : Bool := match s with
  | [] => true
  | [_] => false
  | c :: _ => c == 48
/-- The text of a number from 0 on. -/
def wholeB (s : List UInt8) : Bool := !(lead0 s) && s.all isD
def okL1 (s : List UInt8) : Bool := decide (s.length ≤ 1000000)
theorem okL1_iff {s : List UInt8} : okL1 s = true ↔ s.length ≤ 1000000 := by simp [okL1]
noncomputable def rwhole_W : FnW E := fn1 (E := E) .str .bool okL1 wholeB
def rwhole_id : FuncId := 86
noncomputable def rwhole_O : Oracle E := orac [] [] [] []
noncomputable def rwhole_H : Hint E := Hint.mk [(0, [0, 3])] [] [] [] []
noncomputable def rwhole_C0 (v0 : List UInt8) (v1 : Int) : ASt E := ASt.mk 33 [(0, .d (.str v0)), (3, .d (.int .i64 v1))] [] 0
noncomputable def rwhole_t (G : Nat → ASt E → Option (List (TV E))) (x0 : List UInt8) : Option (List (TV E)) :=
  bif ((decide ((0 : Int) ≤ (0 : Int)) && decide ((0 : Int) < (x0.length : Int))) || !((!((x0.length : Int) == (0 : Int))) && (decide ((1 : Int) < (x0.length : Int))))) then (bif (bif ((x0.length : Int) == (0 : Int)) then true else (bif (decide ((1 : Int) < (x0.length : Int))) then ((((List.getD x0 (Int.toNat (0 : Int)) 0).toNat : Nat) : Int) == (48 : Int)) else false)) then some [⟨.bool, false⟩] else G 0 (rwhole_C0 x0 (0 : Int))) else none
theorem rwhole_e (G : Nat → ASt E → Option (List (TV E))) (x0 : List UInt8) : runE rwhole_O rwhole_H G Tryz.f86 [⟨.str, x0⟩] = rwhole_t G x0 := by kernel_rfl
noncomputable def rwhole_t0 (G : Nat → ASt E → Option (List (TV E))) (v0 : List UInt8) (v1 : Int) : Option (List (TV E)) :=
  bif (decide (v1 < (v0.length : Int))) then (bif (decide ((0 : Int) ≤ v1) && decide (v1 < (v0.length : Int))) then (bif ((decide ((0 : Int) ≤ v1) && decide (v1 < (v0.length : Int))) || !(!(decide ((((List.getD v0 (Int.toNat v1) 0).toNat : Nat) : Int) < (48 : Int))))) then (bif (bif (decide ((((List.getD v0 (Int.toNat v1) 0).toNat : Nat) : Int) < (48 : Int))) then true else (decide ((57 : Int) < (((List.getD v0 (Int.toNat v1) 0).toNat : Nat) : Int)))) then some [⟨.bool, false⟩] else G 0 (rwhole_C0 v0 (w64 (v1 + (1 : Int))))) else none) else none) else some [⟨.bool, true⟩]
theorem rwhole_l0 (G : Nat → ASt E → Option (List (TV E))) (v0 : List UInt8) (v1 : Int) : runL rwhole_O rwhole_H G Tryz.f86 0 (rwhole_C0 v0 v1) = rwhole_t0 G v0 v1 := by kernel_rfl
theorem rwhole_f : Tryz.prog.funcs[86]? = some Tryz.f86 := by kernel_rfl
theorem rwhole_n : (Tryz.f86.name == "runtime.NumGoroutine") = false := by kernel_rfl
theorem rwhole_b : Tryz.f86.body.isNone = false := by kernel_rfl
theorem rwhole_ex : ∃ fn, Tryz.prog.funcs[86]? = some fn ∧ (fn.name == "runtime.NumGoroutine") = false ∧ fn.body.isNone = false := ⟨Tryz.f86, rwhole_f, rwhole_n, rwhole_b⟩
theorem rwhole_hO : OracleOk E rwhole_O := orac_ok .nil .nil .nil .nil
theorem rwhole_s0 {res : List (TV E)} {v0 : List UInt8} {v1 : Int} (h : rwhole_t0 (Gr E Tryz.f86 res) v0 v1 = some res) : Ev E Tryz.f86 res 0 (rwhole_C0 v0 v1) := Ev.step rwhole_hO mix ((rwhole_l0 _ v0 v1).trans h)
theorem rwhole_ok_of (h : ∀ (x0 : List UInt8), okL1 x0 = true → rwhole_t (Gr E Tryz.f86 [⟨.bool, wholeB x0⟩]) x0 = some [⟨.bool, wholeB x0⟩]) : FnOk E rwhole_id rwhole_W := fn1_ok rwhole_hO mix rwhole_f rwhole_n rwhole_b (fun x0 hk => (rwhole_e _ x0).trans (h x0 hk))
theorem bad1_eq (c : UInt8) : (bif decide ((c.toNat : Int) < 48) then true else decide (57 < (c.toNat : Int))) = !(isD c) := by
  unfold isD
  by_cases h1 : c.toNat < 48
  · rw [dT (by omega), dF (show ¬ 48 ≤ c.toNat by omega)]; rfl
  · by_cases h2 : 57 < c.toNat
    · rw [dF (by omega), dT (by omega), dT (show 48 ≤ c.toNat by omega), dF (by omega)]; rfl
    · rw [dF (by omega), dF (by omega), dT (show 48 ≤ c.toNat by omega), dT (by omega)]; rfl
theorem rwhole_0 (s : List UInt8) (hs : s.length ≤ 1000000) : ∀ (m i : Nat), s.length - i = m → i ≤ s.length → 
    Ev E Tryz.f86 [⟨.bool, (s.drop i).all isD⟩] 0 (rwhole_C0 s i) := by
  intro m
  induction m with
  | zero =>
    intro i  h1 h2
    refine rwhole_s0 ?_
    simp only [rwhole_t0, dge (show s.length ≤ i by omega), cond_false, List.drop_eq_nil_of_le (show s.length ≤ i by omega)]
    rfl
  | succ m ih2 =>
    intro i  h1 h2
    have hi : i < s.length := by omega
    have e3 : w64 ((i : Int) + 1) = ((i + 1 : Nat) : Int) := by rw [w64_id (by omega) (by omega)]; omega
    refine rwhole_s0 ?_
    simp only [rwhole_t0, dlt hi, d0, gd s _ i hi, e3, Bool.and_self, Bool.true_or, cond_true, bad1_eq]
    rw [← List.getElem_cons_drop hi]
    rw [List.all_cons]
    cases isD s[i] with
    | false => rfl
    | true => exact Gr_of (ih2 (i + 1) (by omega) (by omega))
theorem c48 (c : UInt8) : ((c.toNat : Int) == (48 : Int)) = (c == 48) := by
  by_cases h : c = 48
  · subst h; rfl
  · rw [eqF (fun e => h (UInt8.toNat_inj.1 (show c.toNat = 48 by have e : (c.toNat : Int) = 48 := e; omega)))]
    simpa using h
theorem rwhole_ok : FnOk E rwhole_id rwhole_W := rwhole_ok_of fun s hk => by
  have hs := okL1_iff.1 hk
  have := Gr_of (rwhole_0 s hs s.length 0 (by omega) (by omega))
  rw [List.drop_zero] at this
  unfold wholeB
  simp only [rwhole_t]
  match s, hs, this with
  | [], _, _ => rfl
  | [c], _, this => exact this
  | c :: d :: t, hs, this =>
    have e1 : ((((c :: d :: t).length : Nat) : Int) == 0) = false := eqF (by simp only [List.length_cons]; omega)
    have e2 : decide ((1 : Int) < ((c :: d :: t).length : Int)) = true := dT (by simp only [List.length_cons]; omega)
    have e3 : decide ((0 : Int) < ((c :: d :: t).length : Int)) = true := dT (by simp only [List.length_cons]; omega)
    have e4 : List.getD (c :: d :: t) (Int.toNat 0) 0 = c := rfl
    simp only [e1, e2, e3, e4, c48, lead0, Bool.not_false, cond_false, cond_true]
    cases c == 48 with
    | true => rfl
    | false => exact this
/-! Values -/
def valN : List UInt8 → Nat → Nat
  | [], n => n
  | c :: t, n => valN t (n * 10 + (c.toNat - 48))
theorem valN_ge : ∀ (s : List UInt8) (n : Nat), n ≤ valN s n
  | [], n => Nat.le_refl _
  | c :: t, n => Nat.le_trans (by omega) (valN_ge t (n * 10 + (c.toNat - 48)))
theorem isD_iff {c : UInt8} : isD c = true ↔ 48 ≤ c.toNat ∧ c.toNat ≤ 57 := by simp [isD]
theorem valN_lt : ∀ (s : List UInt8) (n : Nat), s.all isD = true → valN s n < (n + 1) * 10 ^ s.length
  | [], n, _ => by simp [valN]
  | c :: t, n, h => by
    rw [List.all_cons, Bool.and_eq_true] at h
    have h1 := isD_iff.1 h.1
    have := valN_lt t (n * 10 + (c.toNat - 48)) h.2
    unfold valN
    refine Nat.lt_of_lt_of_le this ?_
    rw [List.length_cons, Nat.pow_succ, Nat.mul_comm (10 ^ t.length) 10, ← Nat.mul_assoc]
    exact Nat.mul_le_mul_right _ (by omega)
def satV (n : Nat) : Int := bif decide (n < 72057594037927936) then (n : Int) else 1152921504606846976
theorem satV_lt {n : Nat} (h : n < 72057594037927936) : satV n = n := by unfold satV; rw [dT h]; rfl
theorem satV_ge {n : Nat} (h : ¬ n < 72057594037927936) : satV n = 1152921504606846976 := by unfold satV; rw [dF h]; rfl
def rvalueV (s : List UInt8) : Int := satV (valN s 0)
def okD (s : List UInt8) : Bool := decide (s.length ≤ 1000000) && s.all isD
theorem okD_iff {s : List UInt8} : okD s = true ↔ s.length ≤ 1000000 ∧ s.all isD = true := by simp [okD]
theorem rvalueV_le (s : List UInt8) : 0 ≤ rvalueV s ∧ rvalueV s ≤ 1152921504606846976 := by
  unfold rvalueV
  by_cases h : valN s 0 < 72057594037927936
  · rw [satV_lt h]; omega
  · rw [satV_ge h]; omega
noncomputable def rvalue_W : FnW E := fn1 (E := E) .str .int okD rvalueV
def rvalue_id : FuncId := 87
noncomputable def rvalue_O : Oracle E := orac [] [] [] []
noncomputable def rvalue_H : Hint E := Hint.mk [(0, [0, 3, 4])] [] [] [] []
noncomputable def rvalue_C0 (v0 : List UInt8) (v1 : Int) (v2 : Int) : ASt E := ASt.mk 22 [(0, .d (.str v0)), (3, .d (.int .i64 v1)), (4, .d (.int .i64 v2))] [] 0
noncomputable def rvalue_t (G : Nat → ASt E → Option (List (TV E))) (x0 : List UInt8) : Option (List (TV E)) :=
  G 0 (rvalue_C0 x0 (0 : Int) (0 : Int))
theorem rvalue_e (G : Nat → ASt E → Option (List (TV E))) (x0 : List UInt8) : runE rvalue_O rvalue_H G Tryz.f87 [⟨.str, x0⟩] = rvalue_t G x0 := by kernel_rfl
noncomputable def rvalue_t0 (G : Nat → ASt E → Option (List (TV E))) (v0 : List UInt8) (v1 : Int) (v2 : Int) : Option (List (TV E)) :=
  bif (decide (v2 < (v0.length : Int))) then (bif (decide ((0 : Int) ≤ v2) && decide (v2 < (v0.length : Int))) then (bif (decide ((72057594037927936 : Int) ≤ (w64 ((w64 ((w64 (v1 * (10 : Int))) + (w64 (((List.getD v0 (Int.toNat v2) 0).toNat : Nat) : Int)))) - (48 : Int))))) then some [⟨.int, (1152921504606846976 : Int)⟩] else G 0 (rvalue_C0 v0 (w64 ((w64 ((w64 (v1 * (10 : Int))) + (w64 (((List.getD v0 (Int.toNat v2) 0).toNat : Nat) : Int)))) - (48 : Int))) (w64 (v2 + (1 : Int))))) else none) else some [⟨.int, v1⟩]
theorem rvalue_l0 (G : Nat → ASt E → Option (List (TV E))) (v0 : List UInt8) (v1 : Int) (v2 : Int) : runL rvalue_O rvalue_H G Tryz.f87 0 (rvalue_C0 v0 v1 v2) = rvalue_t0 G v0 v1 v2 := by kernel_rfl
theorem rvalue_f : Tryz.prog.funcs[87]? = some Tryz.f87 := by kernel_rfl
theorem rvalue_n : (Tryz.f87.name == "runtime.NumGoroutine") = false := by kernel_rfl
theorem rvalue_b : Tryz.f87.body.isNone = false := by kernel_rfl
theorem rvalue_ex : ∃ fn, Tryz.prog.funcs[87]? = some fn ∧ (fn.name == "runtime.NumGoroutine") = false ∧ fn.body.isNone = false := ⟨Tryz.f87, rvalue_f, rvalue_n, rvalue_b⟩
theorem rvalue_hO : OracleOk E rvalue_O := orac_ok .nil .nil .nil .nil
theorem rvalue_s0 {res : List (TV E)} {v0 : List UInt8} {v1 : Int} {v2 : Int} (h : rvalue_t0 (Gr E Tryz.f87 res) v0 v1 v2 = some res) : Ev E Tryz.f87 res 0 (rvalue_C0 v0 v1 v2) := Ev.step rvalue_hO mix ((rvalue_l0 _ v0 v1 v2).trans h)
theorem rvalue_ok_of (h : ∀ (x0 : List UInt8), okD x0 = true → rvalue_t (Gr E Tryz.f87 [⟨.int, rvalueV x0⟩]) x0 = some [⟨.int, rvalueV x0⟩]) : FnOk E rvalue_id rvalue_W := fn1_ok rvalue_hO mix rvalue_f rvalue_n rvalue_b (fun x0 hk => (rvalue_e _ x0).trans (h x0 hk))
theorem rvalue_0 (s : List UInt8) (hs : s.length ≤ 1000000) (hd : s.all isD = true) : ∀ (m i : Nat) (n : Nat), s.length - i = m → i ≤ s.length → n < 72057594037927936 → 
    Ev E Tryz.f87 [⟨.int, satV (valN (s.drop i) n)⟩] 0 (rvalue_C0 s n i) := by
  intro m
  induction m with
  | zero =>
    intro i n h1 h2 h3
    refine rvalue_s0 ?_
    simp only [rvalue_t0, dge (show s.length ≤ i by omega), cond_false, List.drop_eq_nil_of_le (show s.length ≤ i by omega)]
    simp only [valN, satV_lt h3]
  | succ m ih2 =>
    intro i n h1 h2 h3
    have hi : i < s.length := by omega
    have e3 : w64 ((i : Int) + 1) = ((i + 1 : Nat) : Int) := by rw [w64_id (by omega) (by omega)]; omega
    refine rvalue_s0 ?_
    simp only [rvalue_t0, dlt hi, d0, gd s _ i hi, e3, Bool.and_self, Bool.true_or, cond_true]
    rw [← List.getElem_cons_drop hi]
    have hc := isD_iff.1 (List.all_eq_true.1 hd _ (List.getElem_mem hi))
    have e4 : w64 (w64 (w64 ((n : Int) * 10) + w64 ((s[i].toNat : Int))) - 48) = ((n * 10 + (s[i].toNat - 48) : Nat) : Int) := by
      rw [w64_id (n := (n : Int) * 10) (by omega) (by omega), w64_id (n := (s[i].toNat : Int)) (by omega) (by omega), w64_id (n := (n : Int) * 10 + _) (by omega) (by omega), w64_id (by omega) (by omega)]
      omega
    rw [e4]
    simp only [valN]
    by_cases hn : 72057594037927936 ≤ n * 10 + (s[i].toNat - 48)
    · have := valN_ge (s.drop (i + 1)) (n * 10 + (s[i].toNat - 48))
      rw [dT (by omega), cond_true, satV_ge (by omega)]
    · rw [dF (by omega), cond_false]
      exact Gr_of (ih2 (i + 1) _ (by omega) (by omega) (by omega))
theorem rvalue_ok : FnOk E rvalue_id rvalue_W := rvalue_ok_of fun s hk => by
  obtain ⟨hs, hd⟩ := okD_iff.1 hk
  have := Gr_of (rvalue_0 s hs hd s.length 0 0 (by omega) (by omega) (by omega))
  rw [List.drop_zero] at this
  exact this
/-- A number from 0 to a bound, and what is wrong. -/
def overP (most : Int) (n : Nat) : Int × Int := bif decide (most < (n : Int)) then (0, 9) else ((n : Int), 0)
theorem overP_lt {most : Int} {n : Nat} (h : most < (n : Int)) : overP most n = (0, 9) := by unfold overP; rw [dT h]; rfl
theorem overP_ge {most : Int} {n : Nat} (h : ¬ most < (n : Int)) : overP most n = ((n : Int), 0) := by unfold overP; rw [dF h]; rfl
def cntP (s : List UInt8) (most : Int) : Int × Int := bif !(wholeB s) then (0, 3) else overP most (valN s 0)
def cntV (s : List UInt8) (most : Int) : Int := (cntP s most).1
def cntE (s : List UInt8) (most : Int) : Int := (cntP s most).2
def okW (s : List UInt8) (most : Int) : Bool := decide (s.length ≤ 1000000) && decide (0 ≤ most) && decide (most ≤ 9223372036854775807)
theorem okW_iff {s : List UInt8} {most : Int} : okW s most = true ↔ (s.length ≤ 1000000 ∧ 0 ≤ most) ∧ most ≤ 9223372036854775807 := by simp [okW]
theorem cnt_bd (s : List UInt8) (most : Int) (h : 0 ≤ most) : 0 ≤ cntV s most ∧ cntV s most ≤ most := by
  unfold cntV cntP
  cases wholeB s with
  | false => exact ⟨Int.le_refl _, h⟩
  | true =>
    simp only [Bool.not_true, cond_false]
    by_cases hv : most < (valN s 0 : Int)
    · rw [overP_lt hv]; exact ⟨Int.le_refl _, h⟩
    · rw [overP_ge hv]; exact ⟨Int.natCast_nonneg _, by simp only; omega⟩
noncomputable def rcount_W : FnW E := fn22 (E := E) .str .int .int .api_Errno okW cntV cntE
def rcount_id : FuncId := 60
noncomputable def rcount_O : Oracle E := orac [(86, rwhole_W)] [] [] []
noncomputable def rcount_H : Hint E := Hint.mk [(0, [0, 1, 6, 7])] [] [] [] []
noncomputable def rcount_C0 (v0 : List UInt8) (v1 : Int) (v2 : Int) (v3 : Int) : ASt E := ASt.mk 36 [(0, .d (.str v0)), (1, .d (.int .i64 v1)), (6, .d (.int .u64 v2)), (7, .d (.int .i64 v3))] [] 0
noncomputable def rcount_t (G : Nat → ASt E → Option (List (TV E))) (x0 : List UInt8) (x1 : Int) : Option (List (TV E)) :=
  bif (decide (x1 < (0 : Int))) then some [⟨.int, (0 : Int)⟩, ⟨.api_Errno, (2 : Int)⟩] else (bif (okL1 x0) then (bif (!(wholeB x0)) then some [⟨.int, (0 : Int)⟩, ⟨.api_Errno, (3 : Int)⟩] else (bif (decide ((19 : Int) < (x0.length : Int))) then some [⟨.int, (0 : Int)⟩, ⟨.api_Errno, (9 : Int)⟩] else G 0 (rcount_C0 x0 x1 (0 : Int) (0 : Int)))) else none)
theorem rcount_e (G : Nat → ASt E → Option (List (TV E))) (x0 : List UInt8) (x1 : Int) : runE rcount_O rcount_H G Tryz.f60 [⟨.str, x0⟩, ⟨.int, x1⟩] = rcount_t G x0 x1 := by kernel_rfl
noncomputable def rcount_t0 (G : Nat → ASt E → Option (List (TV E))) (v0 : List UInt8) (v1 : Int) (v2 : Int) (v3 : Int) : Option (List (TV E)) :=
  bif (decide (v3 < (v0.length : Int))) then (bif (decide ((0 : Int) ≤ v3) && decide (v3 < (v0.length : Int))) then G 0 (rcount_C0 v0 v1 (IntKind.wrap .u64 ((IntKind.wrap .u64 ((IntKind.wrap .u64 (v2 * (10 : Int))) + (IntKind.wrap .u64 (((List.getD v0 (Int.toNat v3) 0).toNat : Nat) : Int)))) - (48 : Int))) (w64 (v3 + (1 : Int)))) else none) else (bif (decide ((IntKind.wrap .u64 v1) < v2)) then some [⟨.int, (0 : Int)⟩, ⟨.api_Errno, (9 : Int)⟩] else some [⟨.int, (w64 v2)⟩, ⟨.api_Errno, (0 : Int)⟩])
theorem rcount_l0 (G : Nat → ASt E → Option (List (TV E))) (v0 : List UInt8) (v1 : Int) (v2 : Int) (v3 : Int) : runL rcount_O rcount_H G Tryz.f60 0 (rcount_C0 v0 v1 v2 v3) = rcount_t0 G v0 v1 v2 v3 := by kernel_rfl
theorem rcount_f : Tryz.prog.funcs[60]? = some Tryz.f60 := by kernel_rfl
theorem rcount_n : (Tryz.f60.name == "runtime.NumGoroutine") = false := by kernel_rfl
theorem rcount_b : Tryz.f60.body.isNone = false := by kernel_rfl
theorem rcount_ex : ∃ fn, Tryz.prog.funcs[60]? = some fn ∧ (fn.name == "runtime.NumGoroutine") = false ∧ fn.body.isNone = false := ⟨Tryz.f60, rcount_f, rcount_n, rcount_b⟩
theorem rcount_hO : OracleOk E rcount_O := orac_ok (.cons rwhole_ok .nil) .nil .nil .nil
theorem rcount_s0 {res : List (TV E)} {v0 : List UInt8} {v1 : Int} {v2 : Int} {v3 : Int} (h : rcount_t0 (Gr E Tryz.f60 res) v0 v1 v2 v3 = some res) : Ev E Tryz.f60 res 0 (rcount_C0 v0 v1 v2 v3) := Ev.step rcount_hO mix ((rcount_l0 _ v0 v1 v2 v3).trans h)
theorem rcount_ok_of (h : ∀ (x0 : List UInt8) (x1 : Int), okW x0 x1 = true → rcount_t (Gr E Tryz.f60 [⟨.int, cntV x0 x1⟩, ⟨.api_Errno, cntE x0 x1⟩]) x0 x1 = some [⟨.int, cntV x0 x1⟩, ⟨.api_Errno, cntE x0 x1⟩]) : FnOk E rcount_id rcount_W := fn22_ok rcount_hO mix rcount_f rcount_n rcount_b (fun x0 x1 hk => (rcount_e _ x0 x1).trans (h x0 x1 hk))
theorem pow_le19 {k : Nat} (h : k ≤ 19) : 10 ^ k ≤ 10000000000000000000 := by
  have := Nat.pow_le_pow_right (show 0 < 10 by omega) h
  have e : (10 : Nat) ^ 19 = 10000000000000000000 := by decide
  omega
theorem rcount_0 (s : List UInt8) (most : Int) (hm : 0 ≤ most ∧ most ≤ 9223372036854775807) (hs : s.length ≤ 19) (hd : s.all isD = true) : ∀ (m i : Nat) (n : Nat), s.length - i = m → i ≤ s.length → (n + 1) * 10 ^ (s.length - i) ≤ 10000000000000000000 → 
    Ev E Tryz.f60 [⟨.int, (overP most (valN (s.drop i) n)).1⟩, ⟨.api_Errno, (overP most (valN (s.drop i) n)).2⟩] 0 (rcount_C0 s most n i) := by
  intro m
  induction m with
  | zero =>
    intro i n h1 h2 h3
    refine rcount_s0 ?_
    simp only [rcount_t0, dge (show s.length ≤ i by omega), cond_false, List.drop_eq_nil_of_le (show s.length ≤ i by omega)]
    have e0 : s.length - i = 0 := by omega
    rw [e0] at h3
    rw [u64_id (by omega) (by omega)]
    simp only [valN]
    by_cases h : most < (n : Int)
    · rw [dT h, overP_lt h]; rfl
    · rw [dF h, overP_ge h, w64_id (by omega) (by omega)]; rfl
  | succ m ih2 =>
    intro i n h1 h2 h3
    have hi : i < s.length := by omega
    have e3 : w64 ((i : Int) + 1) = ((i + 1 : Nat) : Int) := by rw [w64_id (by omega) (by omega)]; omega
    refine rcount_s0 ?_
    simp only [rcount_t0, dlt hi, d0, gd s _ i hi, e3, Bool.and_self, Bool.true_or, cond_true]
    rw [← List.getElem_cons_drop hi]
    have hc := isD_iff.1 (List.all_eq_true.1 hd _ (List.getElem_mem hi))
    have ep : s.length - i = (s.length - (i + 1)) + 1 := by omega
    have hpow : 1 ≤ 10 ^ (s.length - (i + 1)) := Nat.one_le_pow _ _ (by omega)
    rw [ep, Nat.pow_succ, Nat.mul_comm (10 ^ _) 10, ← Nat.mul_assoc] at h3
    have h5 : (n * 10 + (s[i].toNat - 48) + 1) * 10 ^ (s.length - (i + 1)) ≤ (n + 1) * 10 * 10 ^ (s.length - (i + 1)) := Nat.mul_le_mul_right _ (by omega)
    have h6 : (n + 1) * 10 ≤ 10000000000000000000 := Nat.le_trans (Nat.le_mul_of_pos_right _ hpow) h3
    have e4 : IntKind.wrap .u64 (IntKind.wrap .u64 (IntKind.wrap .u64 ((n : Int) * 10) + IntKind.wrap .u64 ((s[i].toNat : Int))) - 48) = ((n * 10 + (s[i].toNat - 48) : Nat) : Int) := by
      rw [u64_id (n := (n : Int) * 10) (by omega) (by omega), u64_id (n := (s[i].toNat : Int)) (by omega) (by omega), u64_id (n := (n : Int) * 10 + _) (by omega) (by omega), u64_id (by omega) (by omega)]
      omega
    rw [e4]
    simp only [valN]
    exact Gr_of (ih2 (i + 1) _ (by omega) (by omega) (by omega))
theorem valN_big : ∀ (s : List UInt8) (n : Nat), n * 10 ^ s.length ≤ valN s n
  | [], n => by simp [valN]
  | c :: t, n => by
    have := valN_big t (n * 10 + (c.toNat - 48))
    unfold valN
    refine Nat.le_trans ?_ this
    rw [List.length_cons, Nat.pow_succ, Nat.mul_comm (10 ^ t.length) 10, ← Nat.mul_assoc]
    exact Nat.mul_le_mul_right _ (by omega)
theorem whole_big {s : List UInt8} (h : wholeB s = true) (hl : 19 < s.length) : 10000000000000000000 ≤ valN s 0 := by
  match s, h, hl with
  | [], _, hl => simp at hl
  | [_], _, hl => simp at hl
  | c :: d :: t, h, hl =>
    simp only [wholeB, lead0, Bool.and_eq_true, List.all_cons, Bool.not_eq_true'] at h
    have hc := isD_iff.1 h.2.1
    have h48 : c.toNat ≠ 48 := fun e => by
      have : c = 48 := UInt8.toNat_inj.1 e
      subst this; exact absurd h.1 (by decide)
    have h1 := valN_big (d :: t) (0 * 10 + (c.toNat - 48))
    have h2 : 10 ^ 19 ≤ 10 ^ (d :: t).length := Nat.pow_le_pow_right (by omega) (by simp only [List.length_cons] at hl ⊢; omega)
    have e : (10 : Nat) ^ 19 = 10000000000000000000 := by decide
    have h3 : 1 * 10 ^ (d :: t).length ≤ (0 * 10 + (c.toNat - 48)) * 10 ^ (d :: t).length := Nat.mul_le_mul_right _ (by omega)
    show 10000000000000000000 ≤ valN (d :: t) (0 * 10 + (c.toNat - 48))
    omega
theorem rcount_ok : FnOk E rcount_id rcount_W := rcount_ok_of fun s most hk => by
  obtain ⟨⟨hs, h0⟩, h1⟩ := okW_iff.1 hk
  have ho : okL1 s = true := okL1_iff.2 hs
  simp only [rcount_t, dF (show ¬ most < 0 by omega), cond_false, ho, cond_true, cntV, cntE, cntP]
  cases hw : wholeB s with
  | false => rfl
  | true =>
    simp only [Bool.not_true, cond_false]
    by_cases hl : (19 : Int) < (s.length : Int)
    · have := whole_big hw (by omega)
      rw [dT hl, overP_lt (show most < (valN s 0 : Int) by omega)]; rfl
    · rw [dF hl, cond_false]
      have hd : s.all isD = true := by simp only [wholeB, Bool.and_eq_true] at hw; exact hw.2
      have hp := pow_le19 (show s.length ≤ 19 by omega)
      have := Gr_of (rcount_0 s most ⟨h0, h1⟩ (by omega) hd s.length 0 0 (by omega) (by omega) (by rw [Nat.zero_add, Nat.one_mul, Nat.sub_zero]; exact hp))
      rw [List.drop_zero] at this
      exact this
/-! ### The sort and the compaction of texts -/
theorem enc_str {w : World} {ro : Nat → Nat → Prop} {u : Value} {x : List UInt8} (h : DRep E w ro u (.str x)) : u = encStr x := by cases h; rfl
theorem row_strs {w : World} {ro : Nat → Nat → Prop} {xs : List Value} {l : List (List UInt8)} (hl : xs.length = l.length) (h : RowD E w ro .str xs l) : xs = l.map encStr := by
  apply List.ext_getElem?
  intro i
  by_cases hi : i < l.length
  · obtain ⟨u, hu, hd⟩ := h i l[i] 0 (.str l[i]) (List.getElem?_eq_getElem hi) rfl
    have hu : xs[i * 1 + 0]? = some u := hu
    rw [Nat.mul_one, Nat.add_zero] at hu
    rw [hu, enc_str hd]
    simp [hi]
  · rw [List.getElem?_eq_none (by omega), List.getElem?_eq_none (by simp; omega)]
theorem strs_row {w : World} {ro : Nat → Nat → Prop} (l : List (List UInt8)) : RowD E w ro .str (l.map encStr) l := by
  intro i x j c hx hc
  have hc : ([.str x] : List (DVal E.Den))[j]? = some c := hc
  cases j with
  | zero =>
    simp at hc
    subst hc
    refine ⟨encStr x, ?_, .str x⟩
    show (l.map encStr)[i * 1 + 0]? = some (encStr x)
    rw [Nat.mul_one, Nat.add_zero, List.getElem?_map, show l[i]? = some x from hx]
    rfl
  | succ j => simp at hc
def okSort (l : List (List UInt8)) : Bool := decide (l.length ≤ 1000000)
noncomputable def sort_M : FnM E := mut0 (E := E) .str false okSort Pl.msort
def sort_mid : FuncId := 38
theorem sort_mex : ∃ fn, Tryz.prog.funcs[sort_mid]? = some fn ∧ (fn.name == "runtime.NumGoroutine") = false ∧ fn.body.isNone = false := ⟨Tryz.f38, by kernel_rfl, by kernel_rfl, by kernel_rfl⟩
noncomputable def compact_M : FnM E := mut0 (E := E) .str true okSort Lib.compact
def compact_mid : FuncId := 39
theorem compact_mex : ∃ fn, Tryz.prog.funcs[compact_mid]? = some fn ∧ (fn.name == "runtime.NumGoroutine") = false ∧ fn.body.isNone = false := ⟨Tryz.f39, by kernel_rfl, by kernel_rfl, by kernel_rfl⟩
theorem msort_nil : Pl.msort [] = [] := by simp [Pl.msort]
theorem sort_mok : MutOk E sort_mid sort_M := by
  refine ⟨sort_mex, fun t l rest back l' h => ?_⟩
  obtain ⟨l, e1, hr, hb, hok, e2⟩ := mut0_inv h
  cases e1
  cases e2
  subst hr; subst hb
  have hok : okSort l = true := hok
  simp only [okSort, decide_eq_true_eq] at hok
  intro w ro gh xs vals hn hge hgs hown hrow hnro hargs hrolt
  match vals, hargs with
  | [], _ =>
  have hlen : (Pl.msort l).length = l.length := Pl.msort_len l
  rcases hown with ⟨hown, hblk⟩ | ⟨h0, hxs, hblk, ad, hv⟩
  · have hx1 : xs.length = l.length := by rw [hown.1, hgs, hn]; show l.length * 1 = _; omega
    have hxs := row_strs hx1 hrow
    rcases hown.2 with ⟨hnil, hn0⟩ | ⟨g, cap, cur, hgv, hbase, hb, h1, h2, h3, h4⟩
    · have hl0 : l = [] := List.eq_nil_of_length_eq_zero (by omega)
      subst hl0
      rw [hnil, msort_nil]
      refine (Tryz.slices_Sort_string_none none 0 w).mono fun e w' he => ?_
      obtain ⟨rfl, rfl⟩ := he
      refine ⟨_, gh, [], rfl, ⟨rfl, rfl, rfl, Nat.le_refl _, fun _ _ _ => rfl⟩, hn, hge, hgs, .inl ⟨?_, hblk⟩, strs_row [], fun g hg => .inl hg, (fun h => by cases h), fun _ => rfl⟩
      rw [hnil, hn0]
      exact World.ownsRow_nil _ 0 _ _
    · rw [hgv, hn]
      rw [hge] at hb
      have hsz : gh.sz = 1 := hgs
      rw [hsz, Nat.mul_one] at h3
      rw [hsz, Nat.mul_one, hn, hxs] at h4
      refine (Tryz.slices_Sort_string g 0 cap l w (holds_of_block hb h4) (Array.getElem?_eq_some_iff.1 hb).1 (by omega)).mono fun e w' he => ?_
      obtain ⟨rfl, n, os, rfl⟩ := he
      have hg2 : gh.blk = some g := by rw [hblk, hgv]; rfl
      refine ⟨_, gh, (Pl.msort l).map encStr, rfl, by rw [hg2]; exact grownBy_sorted _, by rw [hlen]; exact hn, hge, hgs, .inl ⟨?_, hblk⟩, strs_row _, fun g hg => .inl hg, (fun h => by cases h), fun _ => rfl⟩
      rw [hgv, hn, hge, hsz]
      exact ownsRow_sorted (ts := Pl.msort l) hlen (Nat.zero_le _) hb (by omega) h2 (by rw [h3, Nat.mul_one])
  · have hl0 : l = [] := List.eq_nil_of_length_eq_zero (by omega)
    subst hl0
    rw [hv, msort_nil]
    refine (Tryz.slices_Sort_string_none ad 0 w).mono fun e w' he => ?_
    obtain ⟨rfl, rfl⟩ := he
    exact ⟨_, gh, [], rfl, ⟨rfl, rfl, rfl, Nat.le_refl _, fun _ _ _ => rfl⟩, hn, hge, hgs, .inr ⟨h0, rfl, hblk, ad, hv⟩, strs_row [], fun g hg => .inl hg, (fun h => by cases h), fun _ => rfl⟩
theorem ownsRow_prefix {w : World} {base g cap n m : Nat} {e : TypeId} {xs : List Value} (h : w.ownsRow base e 1 (.slice (some ⟨g, 0, none⟩) n cap) n xs) (hm : m ≤ n) : w.ownsRow base e 1 (.slice (some ⟨g, 0, none⟩) m cap) m (xs.take m) := by
  obtain ⟨h1, h2⟩ := h
  refine ⟨by rw [List.length_take]; omega, .inr ?_⟩
  rcases h2 with ⟨h2, _⟩ | ⟨g', cap', cur, h2, h3, h4, h5, h6, h7, h8⟩
  · cases h2
  · cases h2
    exact ⟨g, cap, cur, rfl, h3, h4, by omega, h6, h7, by rw [← h8, List.take_take, Nat.mul_one, Nat.mul_one, Nat.min_eq_left hm]⟩
theorem compact_mok : MutOk E compact_mid compact_M := by
  refine ⟨compact_mex, fun t l rest back l' h => ?_⟩
  obtain ⟨l, e1, hr, hb, hok, e2⟩ := mut0_inv h
  cases e1
  cases e2
  subst hr; subst hb
  have hok : okSort l = true := hok
  simp only [okSort, decide_eq_true_eq] at hok
  intro w ro gh xs vals hn hge hgs hown hrow hnro hargs hrolt
  match vals, hargs with
  | [], _ =>
  have hlen := Pl.compact_len l
  rcases hown with ⟨hown, hblk⟩ | ⟨h0, hxs, hblk, ad, hv⟩
  · have hx1 : xs.length = l.length := by rw [hown.1, hgs, hn]; show l.length * 1 = _; omega
    have hxs := row_strs hx1 hrow
    rcases hown.2 with ⟨hnil, hn0⟩ | ⟨g, cap, cur, hgv, hbase, hb, h1, h2, h3, h4⟩
    · have hl0 : l = [] := List.eq_nil_of_length_eq_zero (by omega)
      subst hl0
      rw [hnil]
      refine (Tryz.slices_Compact_string_empty none 0 w).mono fun e w' he => ?_
      obtain ⟨rfl, rfl⟩ := he
      refine ⟨_, gh, [], rfl, ⟨rfl, rfl, rfl, Nat.le_refl _, fun _ _ _ => rfl⟩, hn, hge, hgs, .inl ⟨?_, hblk⟩, strs_row [], fun g hg => .inl hg, (fun _ => hnil.symm), (fun h => by cases h)⟩
      rw [hnil, hn0]
      exact World.ownsRow_nil _ 0 _ _
    · rw [hgv, hn]
      rw [hge] at hb
      have hsz : gh.sz = 1 := hgs
      rw [hsz, Nat.mul_one] at h3
      rw [hsz, Nat.mul_one, hn, hxs] at h4
      have hcap : l.length ≤ cap := by omega
      refine (Tryz.slices_Compact_string g 0 cap l w (holds_of_block hb h4) (by omega) hcap).mono fun e w' he => ?_
      obtain ⟨rfl, q, rfl⟩ := he
      have hg2 : gh.blk = some g := by rw [hblk, hgv]; rfl
      have hts : (Lib.compact l ++ List.replicate (l.length - (Lib.compact l).length) []).length = l.length := by simp; omega
      have hown' := ownsRow_sorted (n := q) (os := #[]) (ts := Lib.compact l ++ List.replicate (l.length - (Lib.compact l).length) []) hts (Nat.zero_le g) hb hcap h2 (by rw [h3, Nat.mul_one])
      rw [Sort.grow_empty] at hown'
      have hgb := grownBy_sorted (w := w) (g := g) (n := q) (os := #[]) (Lib.compact l ++ List.replicate (l.length - (Lib.compact l).length) []).toArray
      rw [Sort.grow_empty] at hgb
      have hp := ownsRow_prefix hown' hlen
      rw [List.map_append, List.take_left' (by simp)] at hp
      exact ⟨_, ⟨.slice (some ⟨g, 0, none⟩) (Lib.compact l).length cap, (Lib.compact l).length, E.tid .str, E.size .str, some g⟩, (Lib.compact l).map encStr, rfl, by rw [hg2]; exact hgb, rfl, rfl, rfl, .inl ⟨hp, rfl⟩, strs_row _,
        (fun g' hg' => .inl (by rw [hg2]; exact hg')), (fun _ => rfl), (fun h => by cases h)⟩
  · have hl0 : l = [] := List.eq_nil_of_length_eq_zero (by omega)
    subst hl0
    rw [hv]
    refine (Tryz.slices_Compact_string_empty ad 0 w).mono fun e w' he => ?_
    obtain ⟨rfl, rfl⟩ := he
    exact ⟨_, gh, [], rfl, ⟨rfl, rfl, rfl, Nat.le_refl _, fun _ _ _ => rfl⟩, hn, hge, hgs, .inr ⟨h0, rfl, hblk, ad, hv⟩, strs_row [], fun g hg => .inl hg, (fun _ => hv.symm), (fun h => by cases h)⟩
/-! ### slices.Grow of nil, at texts -/
theorem zc_size (C : Array Value) (n : Nat) (h : C.size = 1) : (Builtin.zeroCells C n).size = n := by simp [Builtin.zeroCells, h]
set_option maxRecDepth 100000 in
theorem grow_gok : GrowOk E 40 .str := by
  refine ⟨⟨Tryz.f40, by kernel_rfl, by kernel_rfl, by kernel_rfl⟩, fun w n h0 hb => ?_⟩
  have hb : n * 16 ≤ 140737488355328 := hb
  by_cases hz : n = 0
  · subst hz
    go_enter Tryz.func40, Tryz.ntmps40
    go_wp2
    go_ret
    exact ⟨⟨.slice none 0 0, 0, E.tid .str, E.size .str, none⟩, rfl, Below.refl _ _, rfl, rfl, rfl, .inl ⟨World.ownsRow_nil w 0 _ _, rfl⟩, fun g hg => by cases hg⟩
  · obtain ⟨k, rfl⟩ : ∃ k : Nat, n = k := ⟨n.toNat, by omega⟩
    obtain ⟨i, z, hi, his, hib, hzz, hzs⟩ := E.info_ok .str
    have h := Lib.run_append_nil_zeros (P := Tryz.prog) w 22 3 22 9 i z .i64 .i64 Tryz.underlying22 Tryz.underlying3 hi hzz k (by omega) (by rw [his]; exact E.size_pos _) (by omega) (by rw [hib]; show k * 16 ≤ _; omega)
    generalize z.cells = C at h hzs
    have hC : C.size = 1 := hzs
    have hcap := grownCap_ge w k 0 9
    go_enter Tryz.func40, Tryz.ntmps40
    go_wp2_with (at_builtin; refine Lib.wpList_append_run _ rfl _ _ _ _ rfl _ _ rfl rfl _ _ h ?_)
    go_ret
    refine ⟨⟨.slice (some ⟨w.heap.size, 0, none⟩) 0 (grownCap w k 0 9), 0, E.tid .str, E.size .str, some w.heap.size⟩, rfl, ((Below.refl _ _).alloc (Nat.le_refl _) _).drew, rfl, rfl, rfl, .inl ⟨?_, rfl⟩, fun g hg => by cases hg; exact Nat.le_refl _⟩
    refine World.ownsRow.drew (World.ownsRow_made w _ _ (Nat.zero_le _) ?_ ?_)
    · exact grownCap_le_maxLen w k 0 9 (by unfold maxLen; omega)
    · rw [Array.size_append, zc_size C k hC, zc_size C _ hC]
      show _ = grownCap w k 0 9 * 1
      omega
/-! ### slices.Index, Equal, Concat at texts -/
def ln6 {α : Type} (l : List α) : Bool := decide (l.length ≤ 1000000)
theorem ln6_iff {α : Type} {l : List α} : ln6 l = true ↔ l.length ≤ 1000000 := by simp [ln6]
def idxF (s : List UInt8) : Nat → List (List UInt8) → Int
  | _, [] => -1
  | i, a :: t => if s = a then i else idxF s (i + 1) t
def index (l : List (List UInt8)) (s : List UInt8) : Int := idxF s 0 l
noncomputable def index_W : FnW E := fn2 (E := E) .l_str .str .int (fun l _ => ln6 l) index
def index_id : FuncId := 54
noncomputable def index_O : Oracle E := orac [] [] [] []
noncomputable def index_H : Hint E := Hint.mk [(0, [0, 1, 7, 8])] [] [] [] []
noncomputable def index_C0 (v0 : List (List UInt8)) (v1 : List UInt8) (v2 : Int) (v3 : Int) : ASt E := ASt.mk 19 [(0, .d (.slice .str v0)), (1, .d (.str v1)), (7, .d (.int .i64 v2)), (8, .d (.int .i64 v3))] [] 0
noncomputable def index_t (G : Nat → ASt E → Option (List (TV E))) (x0 : List (List UInt8)) (x1 : List UInt8) : Option (List (TV E)) :=
  G 0 (index_C0 x0 x1 (x0.length : Int) (0 : Int))
theorem index_e (G : Nat → ASt E → Option (List (TV E))) (x0 : List (List UInt8)) (x1 : List UInt8) : runE index_O index_H G Tryz.f54 [⟨.l_str, x0⟩, ⟨.str, x1⟩] = index_t G x0 x1 := by kernel_rfl
noncomputable def index_t0 (G : Nat → ASt E → Option (List (TV E))) (v0 : List (List UInt8)) (v1 : List UInt8) (v2 : Int) (v3 : Int) : Option (List (TV E)) :=
  bif (decide (v3 < v2)) then (bif (decide ((0 : Int) ≤ v3) && decide (v3 < (v0.length : Int))) then (bif (v1 == (List.getD v0 (Int.toNat v3) (dflt .str))) then some [⟨.int, v3⟩] else G 0 (index_C0 v0 v1 v2 (w64 (v3 + (1 : Int))))) else none) else some [⟨.int, (-1 : Int)⟩]
theorem index_l0 (G : Nat → ASt E → Option (List (TV E))) (v0 : List (List UInt8)) (v1 : List UInt8) (v2 : Int) (v3 : Int) : runL index_O index_H G Tryz.f54 0 (index_C0 v0 v1 v2 v3) = index_t0 G v0 v1 v2 v3 := by kernel_rfl
theorem index_f : Tryz.prog.funcs[54]? = some Tryz.f54 := by kernel_rfl
theorem index_n : (Tryz.f54.name == "runtime.NumGoroutine") = false := by kernel_rfl
theorem index_b : Tryz.f54.body.isNone = false := by kernel_rfl
theorem index_ex : ∃ fn, Tryz.prog.funcs[54]? = some fn ∧ (fn.name == "runtime.NumGoroutine") = false ∧ fn.body.isNone = false := ⟨Tryz.f54, index_f, index_n, index_b⟩
theorem index_hO : OracleOk E index_O := orac_ok .nil .nil .nil .nil
theorem index_s0 {res : List (TV E)} {v0 : List (List UInt8)} {v1 : List UInt8} {v2 : Int} {v3 : Int} (h : index_t0 (Gr E Tryz.f54 res) v0 v1 v2 v3 = some res) : Ev E Tryz.f54 res 0 (index_C0 v0 v1 v2 v3) := Ev.step index_hO mix ((index_l0 _ v0 v1 v2 v3).trans h)
theorem index_ok_of (h : ∀ (x0 : List (List UInt8)) (x1 : List UInt8), (fun l _ => ln6 l) x0 x1 = true → index_t (Gr E Tryz.f54 [⟨.int, index x0 x1⟩]) x0 x1 = some [⟨.int, index x0 x1⟩]) : FnOk E index_id index_W := fn2_ok index_hO mix index_f index_n index_b (fun x0 x1 hk => (index_e _ x0 x1).trans (h x0 x1 hk))
theorem index_loop (l : List (List UInt8)) (s : List UInt8) (hl : l.length ≤ 1000000) : ∀ (m i : Nat), l.length - i = m → i ≤ l.length → Ev E Tryz.f54 [⟨.int, idxF s i (l.drop i)⟩] 0 (index_C0 l s l.length i) := by
  intro m
  induction m with
  | zero =>
    intro i h1 h2
    refine index_s0 ?_
    simp only [index_t0, dge (show l.length ≤ i by omega), cond_false, List.drop_eq_nil_of_le (show l.length ≤ i by omega)]
    rfl
  | succ m ih =>
    intro i h1 h2
    have hi : i < l.length := by omega
    refine index_s0 ?_
    simp only [index_t0, dlt hi, d0, gd l _ i hi, Bool.and_self, cond_true]
    rw [← List.getElem_cons_drop hi]
    unfold idxF
    by_cases hs : s = l[i]
    · rw [if_pos hs, show (s == l[i]) = true from by simpa using hs]; rfl
    · rw [if_neg hs, show (s == l[i]) = false from by simpa using hs, cond_false, w64_id (by omega) (by omega)]
      exact Gr_of (ih (i + 1) (by omega) (by omega))
theorem index_ok : FnOk E index_id index_W := index_ok_of fun l s hk => by
  have := index_loop l s (ln6_iff.1 hk) l.length 0 (by omega) (by omega)
  rw [List.drop_zero] at this
  exact Gr_of this
def equal (a b : List (List UInt8)) : Bool := a == b
noncomputable def equal_W : FnW E := fn2 (E := E) .l_str .l_str .bool (fun a _ => ln6 a) equal
def equal_id : FuncId := 42
noncomputable def equal_O : Oracle E := orac [] [] [] []
noncomputable def equal_H : Hint E := Hint.mk [(0, [0, 1, 12, 13])] [] [] [] []
noncomputable def equal_C0 (v0 : List (List UInt8)) (v1 : List (List UInt8)) (v2 : Int) (v3 : Int) : ASt E := ASt.mk 26 [(0, .d (.slice .str v0)), (1, .d (.slice .str v1)), (12, .d (.int .i64 v2)), (13, .d (.int .i64 v3))] [] 0
noncomputable def equal_t (G : Nat → ASt E → Option (List (TV E))) (x0 : List (List UInt8)) (x1 : List (List UInt8)) : Option (List (TV E)) :=
  bif ((x0.length : Int) != (x1.length : Int)) then some [⟨.bool, false⟩] else G 0 (equal_C0 x0 x1 (x0.length : Int) (0 : Int))
theorem equal_e (G : Nat → ASt E → Option (List (TV E))) (x0 : List (List UInt8)) (x1 : List (List UInt8)) : runE equal_O equal_H G Tryz.f42 [⟨.l_str, x0⟩, ⟨.l_str, x1⟩] = equal_t G x0 x1 := by kernel_rfl
noncomputable def equal_t0 (G : Nat → ASt E → Option (List (TV E))) (v0 : List (List UInt8)) (v1 : List (List UInt8)) (v2 : Int) (v3 : Int) : Option (List (TV E)) :=
  bif (decide (v3 < v2)) then (bif (decide ((0 : Int) ≤ v3) && decide (v3 < (v0.length : Int))) then (bif (decide ((0 : Int) ≤ v3) && decide (v3 < (v1.length : Int))) then (bif (!((List.getD v0 (Int.toNat v3) (dflt .str)) == (List.getD v1 (Int.toNat v3) (dflt .str)))) then some [⟨.bool, false⟩] else G 0 (equal_C0 v0 v1 v2 (w64 (v3 + (1 : Int))))) else none) else none) else some [⟨.bool, true⟩]
theorem equal_l0 (G : Nat → ASt E → Option (List (TV E))) (v0 : List (List UInt8)) (v1 : List (List UInt8)) (v2 : Int) (v3 : Int) : runL equal_O equal_H G Tryz.f42 0 (equal_C0 v0 v1 v2 v3) = equal_t0 G v0 v1 v2 v3 := by kernel_rfl
theorem equal_f : Tryz.prog.funcs[42]? = some Tryz.f42 := by kernel_rfl
theorem equal_n : (Tryz.f42.name == "runtime.NumGoroutine") = false := by kernel_rfl
theorem equal_b : Tryz.f42.body.isNone = false := by kernel_rfl
theorem equal_ex : ∃ fn, Tryz.prog.funcs[42]? = some fn ∧ (fn.name == "runtime.NumGoroutine") = false ∧ fn.body.isNone = false := ⟨Tryz.f42, equal_f, equal_n, equal_b⟩
theorem equal_hO : OracleOk E equal_O := orac_ok .nil .nil .nil .nil
theorem equal_s0 {res : List (TV E)} {v0 : List (List UInt8)} {v1 : List (List UInt8)} {v2 : Int} {v3 : Int} (h : equal_t0 (Gr E Tryz.f42 res) v0 v1 v2 v3 = some res) : Ev E Tryz.f42 res 0 (equal_C0 v0 v1 v2 v3) := Ev.step equal_hO mix ((equal_l0 _ v0 v1 v2 v3).trans h)
theorem equal_ok_of (h : ∀ (x0 : List (List UInt8)) (x1 : List (List UInt8)), (fun a _ => ln6 a) x0 x1 = true → equal_t (Gr E Tryz.f42 [⟨.bool, equal x0 x1⟩]) x0 x1 = some [⟨.bool, equal x0 x1⟩]) : FnOk E equal_id equal_W := fn2_ok equal_hO mix equal_f equal_n equal_b (fun x0 x1 hk => (equal_e _ x0 x1).trans (h x0 x1 hk))
theorem equal_loop (a b : List (List UInt8)) (ha : a.length ≤ 1000000) (hab : a.length = b.length) : ∀ (m i : Nat), a.length - i = m → i ≤ a.length → Ev E Tryz.f42 [⟨.bool, a.drop i == b.drop i⟩] 0 (equal_C0 a b a.length i) := by
  intro m
  induction m with
  | zero =>
    intro i h1 h2
    refine equal_s0 ?_
    simp only [equal_t0, dge (show a.length ≤ i by omega), cond_false, List.drop_eq_nil_of_le (show a.length ≤ i by omega), List.drop_eq_nil_of_le (show b.length ≤ i by omega)]
    rfl
  | succ m ih =>
    intro i h1 h2
    have hi : i < a.length := by omega
    have hj : i < b.length := by omega
    refine equal_s0 ?_
    simp only [equal_t0, dlt hi, dlt hj, d0, gd a _ i hi, gd b _ i hj, Bool.and_self, cond_true]
    rw [← List.getElem_cons_drop hi, ← List.getElem_cons_drop hj, w64_id (by omega) (by omega)]
    by_cases hs : a[i] = b[i]
    · have e : (a[i] :: a.drop (i + 1) == b[i] :: b.drop (i + 1)) = (a.drop (i + 1) == b.drop (i + 1)) := by rw [List.cons_beq_cons]; simp [hs]
      rw [e, show (a[i] == b[i]) = true from by simpa using hs]
      exact Gr_of (ih (i + 1) (by omega) (by omega))
    · have e : (a[i] :: a.drop (i + 1) == b[i] :: b.drop (i + 1)) = false := by rw [List.cons_beq_cons]; simp [hs]
      rw [e, show (a[i] == b[i]) = false from by simpa using hs]
      rfl
theorem equal_ok : FnOk E equal_id equal_W := equal_ok_of fun a b hk => by
  simp only [equal_t]
  by_cases h : a.length = b.length
  · rw [neF (by omega), cond_false]
    have := equal_loop a b (ln6_iff.1 hk) h a.length 0 (by omega) (by omega)
    rw [List.drop_zero, List.drop_zero] at this
    exact Gr_of this
  · rw [neT (by omega), cond_true]
    have : equal a b = false := by simp only [equal, beq_eq_false_iff_ne]; exact fun e => h (by rw [e])
    rw [this]
def lens (l : List (List (List UInt8))) : Nat := (l.map List.length).sum
def okCat (l : List (List (List UInt8))) : Bool := decide (l.length ≤ 1000000) && decide (lens l ≤ 1000000)
noncomputable def concat_W : FnW E := fn1 (E := E) .l_l_str .l_str okCat List.flatten
def concat_id : FuncId := 33
noncomputable def concat_O : Oracle E := orac [] [] [] [(40, .str)]
noncomputable def concat_H : Hint E := Hint.mk [(0, [0, 3, 9, 10, 11]), (1, [6, 25, 26, 27])] [] [] [] []
noncomputable def concat_C0 (v0 : List (List (List UInt8))) (v1 : Int) (v2 : List (List (List UInt8))) (v3 : Int) (v4 : Int) : ASt E := ASt.mk 36 [(0, .d (.slice .l_str v0)), (3, .d (.int .i64 v1)), (9, .d (.slice .l_str v2)), (10, .d (.int .i64 v3)), (11, .d (.int .i64 v4))] [] 0
noncomputable def concat_C1 (v0 : Nat) (v1 : List (List (List UInt8))) (v2 : Int) (v3 : Int) (v4 : List (List UInt8)) : ASt E := ASt.mk 36 [(6, .row .str v0 0), (25, .d (.slice .l_str v1)), (26, .d (.int .i64 v2)), (27, .d (.int .i64 v3))] [(0, .row .str v4)] 1
noncomputable def concat_t (G : Nat → ASt E → Option (List (TV E))) (x0 : List (List (List UInt8))) : Option (List (TV E)) :=
  G 0 (concat_C0 x0 (0 : Int) x0 (x0.length : Int) (0 : Int))
theorem concat_e (G : Nat → ASt E → Option (List (TV E))) (x0 : List (List (List UInt8))) : runE concat_O concat_H G Tryz.f33 [⟨.l_l_str, x0⟩] = concat_t G x0 := by kernel_rfl
noncomputable def concat_t0 (G : Nat → ASt E → Option (List (TV E))) (v0 : List (List (List UInt8))) (v1 : Int) (v2 : List (List (List UInt8))) (v3 : Int) (v4 : Int) : Option (List (TV E)) :=
  bif (decide (v4 < v3)) then (bif (decide ((0 : Int) ≤ v4) && decide (v4 < (v2.length : Int))) then (bif (decide ((w64 (v1 + ((List.getD v2 (Int.toNat v4) (dflt .l_str)).length : Int))) < (0 : Int))) then none else G 0 (concat_C0 v0 (w64 (v1 + ((List.getD v2 (Int.toNat v4) (dflt .l_str)).length : Int))) v2 v3 (w64 (v4 + (1 : Int))))) else none) else (bif (decide ((0 : Int) ≤ v1) && decide (v1 * (16 : Int) ≤ 140737488355328)) then G 1 (concat_C1 0 v0 (v0.length : Int) (0 : Int) ([] : List (List UInt8))) else none)
theorem concat_l0 (G : Nat → ASt E → Option (List (TV E))) (v0 : List (List (List UInt8))) (v1 : Int) (v2 : List (List (List UInt8))) (v3 : Int) (v4 : Int) : runL concat_O concat_H G Tryz.f33 0 (concat_C0 v0 v1 v2 v3 v4) = concat_t0 G v0 v1 v2 v3 v4 := by kernel_rfl
noncomputable def concat_t1 (G : Nat → ASt E → Option (List (TV E))) (_v0 : Nat) (v1 : List (List (List UInt8))) (v2 : Int) (v3 : Int) (v4 : List (List UInt8)) : Option (List (TV E)) :=
  bif (decide (v3 < v2)) then (bif (decide ((0 : Int) ≤ v3) && decide (v3 < (v1.length : Int))) then (bif (decide ((v4.length + (List.getD v1 (Int.toNat v3) (dflt .l_str)).length) * 16 ≤ maxBytes)) then G 1 (concat_C1 (v4.length + (List.getD v1 (Int.toNat v3) (dflt .l_str)).length) v1 v2 (w64 (v3 + (1 : Int))) (v4 ++ (List.getD v1 (Int.toNat v3) (dflt .l_str)))) else none) else none) else some [⟨.l_str, v4⟩]
theorem concat_l1 (G : Nat → ASt E → Option (List (TV E))) (v0 : Nat) (v1 : List (List (List UInt8))) (v2 : Int) (v3 : Int) (v4 : List (List UInt8)) : runL concat_O concat_H G Tryz.f33 1 (concat_C1 v0 v1 v2 v3 v4) = concat_t1 G v0 v1 v2 v3 v4 := by kernel_rfl
theorem concat_f : Tryz.prog.funcs[33]? = some Tryz.f33 := by kernel_rfl
theorem concat_n : (Tryz.f33.name == "runtime.NumGoroutine") = false := by kernel_rfl
theorem concat_b : Tryz.f33.body.isNone = false := by kernel_rfl
theorem concat_ex : ∃ fn, Tryz.prog.funcs[33]? = some fn ∧ (fn.name == "runtime.NumGoroutine") = false ∧ fn.body.isNone = false := ⟨Tryz.f33, concat_f, concat_n, concat_b⟩
theorem concat_hO : OracleOk E concat_O := orac_ok .nil .nil .nil (.cons grow_gok .nil)
theorem concat_s0 {res : List (TV E)} {v0 : List (List (List UInt8))} {v1 : Int} {v2 : List (List (List UInt8))} {v3 : Int} {v4 : Int} (h : concat_t0 (Gr E Tryz.f33 res) v0 v1 v2 v3 v4 = some res) : Ev E Tryz.f33 res 0 (concat_C0 v0 v1 v2 v3 v4) := Ev.step concat_hO mix ((concat_l0 _ v0 v1 v2 v3 v4).trans h)
theorem concat_s1 {res : List (TV E)} {v0 : Nat} {v1 : List (List (List UInt8))} {v2 : Int} {v3 : Int} {v4 : List (List UInt8)} (h : concat_t1 (Gr E Tryz.f33 res) v0 v1 v2 v3 v4 = some res) : Ev E Tryz.f33 res 1 (concat_C1 v0 v1 v2 v3 v4) := Ev.step concat_hO mix ((concat_l1 _ v0 v1 v2 v3 v4).trans h)
theorem concat_ok_of (h : ∀ (x0 : List (List (List UInt8))), okCat x0 = true → concat_t (Gr E Tryz.f33 [⟨.l_str, List.flatten x0⟩]) x0 = some [⟨.l_str, List.flatten x0⟩]) : FnOk E concat_id concat_W := fn1_ok concat_hO mix concat_f concat_n concat_b (fun x0 hk => (concat_e _ x0).trans (h x0 hk))
theorem lens_take (l : List (List (List UInt8))) (i : Nat) (hi : i < l.length) : lens (l.take (i + 1)) = lens (l.take i) + l[i].length := by
  unfold lens
  rw [← List.take_append_getElem hi, List.map_append, List.sum_append]
  rfl
theorem lens_le (l : List (List (List UInt8))) : ∀ i, lens (l.take i) ≤ lens l := by
  intro i
  have : lens l = lens (l.take i) + lens (l.drop i) := by
    unfold lens
    rw [← List.sum_append, ← List.map_append, List.take_append_drop]
  omega
theorem concat_1 (l : List (List (List UInt8))) (hl : l.length ≤ 1000000) (hs : lens l ≤ 1000000) : ∀ (m i v0 : Nat) (out : List (List UInt8)), l.length - i = m → i ≤ l.length → out.length = lens (l.take i) → v0 = out.length →
    Ev E Tryz.f33 [⟨.l_str, out ++ (l.drop i).flatten⟩] 1 (concat_C1 v0 l l.length i out) := by
  intro m
  induction m with
  | zero =>
    intro i v0 out h1 h2 h3 h4
    refine concat_s1 ?_
    simp only [concat_t1, dge (show l.length ≤ i by omega), cond_false, List.drop_eq_nil_of_le (show l.length ≤ i by omega), List.flatten_nil, List.append_nil]
  | succ m ih =>
    intro i v0 out h1 h2 h3 h4
    have hi : i < l.length := by omega
    have h5 := lens_take l i hi
    have h6 := lens_le l (i + 1)
    refine concat_s1 ?_
    simp only [concat_t1, dlt hi, d0, gd l _ i hi, Bool.and_self, cond_true]
    rw [dT (show (out.length + l[i].length) * 16 ≤ maxBytes by rw [mb]; omega), cond_true, w64_id (by omega) (by omega), ← List.getElem_cons_drop hi, List.flatten_cons, ← List.append_assoc]
    exact Gr_of (ih (i + 1) _ (out ++ l[i]) (by omega) (by omega) (by rw [List.length_append]; omega) (by rw [List.length_append]))
theorem concat_0 (l : List (List (List UInt8))) (hl : l.length ≤ 1000000) (hs : lens l ≤ 1000000) : ∀ (m i : Nat), l.length - i = m → i ≤ l.length →
    Ev E Tryz.f33 [⟨.l_str, l.flatten⟩] 0 (concat_C0 l (lens (l.take i)) l l.length i) := by
  intro m
  induction m with
  | zero =>
    intro i h1 h2
    have e : l.take i = l := List.take_of_length_le (by omega)
    refine concat_s0 ?_
    simp only [concat_t0, dge (show l.length ≤ i by omega), cond_false, e, d0]
    rw [dT (show (lens l : Int) * 16 ≤ 140737488355328 by omega), Bool.and_self, cond_true]
    have := concat_1 l hl hs l.length 0 0 [] (by omega) (by omega) (by simp [lens]) rfl
    rw [List.drop_zero, List.nil_append] at this
    exact Gr_of this
  | succ m ih =>
    intro i h1 h2
    have hi : i < l.length := by omega
    have h5 := lens_take l i hi
    have h6 := lens_le l (i + 1)
    refine concat_s0 ?_
    simp only [concat_t0, dlt hi, d0, gd l _ i hi, Bool.and_self, cond_true]
    rw [w64_id (n := (lens (l.take i) : Int) + (l[i].length : Int)) (by omega) (by omega), dF (by omega), cond_false, w64_id (by omega) (by omega), show (lens (l.take i) : Int) + (l[i].length : Int) = (lens (l.take (i + 1)) : Nat) from by omega]
    exact Gr_of (ih (i + 1) (by omega) (by omega))
theorem concat_ok : FnOk E concat_id concat_W := concat_ok_of fun l hk => by
  simp only [okCat, Bool.and_eq_true, decide_eq_true_eq] at hk
  exact Gr_of (concat_0 l hk.1 hk.2 l.length 0 (by omega) (by omega))
/-! ### Package name: lists of texts -/
noncomputable def nsorted_W : FnW E := fn1 (E := E) .l_str .l_str ln6 Pl.sortD
def nsorted_id : FuncId := 32
noncomputable def nsorted_O : Oracle E := orac [] [] [(39, compact_M), (38, sort_M)] []
noncomputable def nsorted_H : Hint E := Hint.mk [] [] [] [] []
noncomputable def nsorted_t (_G : Nat → ASt E → Option (List (TV E))) (x0 : List (List UInt8)) : Option (List (TV E)) :=
  bif (decide ((([] : List (List UInt8)).length + x0.length) * 16 ≤ maxBytes)) then (bif (okSort (([] : List (List UInt8)) ++ x0)) then (bif (okSort (Pl.msort (([] : List (List UInt8)) ++ x0))) then some [⟨.l_str, (Lib.compact (Pl.msort (([] : List (List UInt8)) ++ x0)))⟩] else none) else none) else none
theorem nsorted_e (G : Nat → ASt E → Option (List (TV E))) (x0 : List (List UInt8)) : runE nsorted_O nsorted_H G Tryz.f32 [⟨.l_str, x0⟩] = nsorted_t G x0 := by kernel_rfl
theorem nsorted_f : Tryz.prog.funcs[32]? = some Tryz.f32 := by kernel_rfl
theorem nsorted_n : (Tryz.f32.name == "runtime.NumGoroutine") = false := by kernel_rfl
theorem nsorted_b : Tryz.f32.body.isNone = false := by kernel_rfl
theorem nsorted_ex : ∃ fn, Tryz.prog.funcs[32]? = some fn ∧ (fn.name == "runtime.NumGoroutine") = false ∧ fn.body.isNone = false := ⟨Tryz.f32, nsorted_f, nsorted_n, nsorted_b⟩
theorem nsorted_hO : OracleOk E nsorted_O := orac_ok .nil .nil (.cons compact_mok (.cons sort_mok .nil)) .nil
theorem nsorted_ok_of (h : ∀ (x0 : List (List UInt8)), ln6 x0 = true → nsorted_t (Gr E Tryz.f32 [⟨.l_str, Pl.sortD x0⟩]) x0 = some [⟨.l_str, Pl.sortD x0⟩]) : FnOk E nsorted_id nsorted_W := fn1_ok nsorted_hO mix nsorted_f nsorted_n nsorted_b (fun x0 hk => (nsorted_e _ x0).trans (h x0 hk))
theorem nsorted_ok : FnOk E nsorted_id nsorted_W := nsorted_ok_of fun l hk => by
  have hl := ln6_iff.1 hk
  have h1 : okSort (([] : List (List UInt8)) ++ l) = true := by simpa [okSort] using hl
  have h2 : okSort (Pl.msort (([] : List (List UInt8)) ++ l)) = true := by simp only [okSort, decide_eq_true_eq, Pl.msort_len]; simpa using hl
  simp only [nsorted_t, h1, h2, cond_true]
  rw [dT (show (([] : List (List UInt8)).length + l.length) * 16 ≤ maxBytes by rw [mb, List.length_nil]; omega)]
  rfl
def both (a b : List (List UInt8)) : List (List UInt8) := Pl.sortD (a ++ b)
def ln5 (a b : List (List UInt8)) : Bool := decide (a.length + b.length ≤ 100000)
noncomputable def nboth_W : FnW E := fn2 (E := E) .l_str .l_str .l_str ln5 both
def nboth_id : FuncId := 22
noncomputable def nboth_O : Oracle E := orac [(32, nsorted_W), (33, concat_W)] [] [] []
noncomputable def nboth_H : Hint E := Hint.mk [] [] [] [] []
noncomputable def nboth_t (_G : Nat → ASt E → Option (List (TV E))) (x0 : List (List UInt8)) (x1 : List (List UInt8)) : Option (List (TV E)) :=
  bif (okCat ([x0, x1] : List (List (List UInt8)))) then (bif (ln6 (List.flatten ([x0, x1] : List (List (List UInt8))))) then some [⟨.l_str, (Pl.sortD (List.flatten ([x0, x1] : List (List (List UInt8)))))⟩] else none) else none
theorem nboth_e (G : Nat → ASt E → Option (List (TV E))) (x0 : List (List UInt8)) (x1 : List (List UInt8)) : runE nboth_O nboth_H G Tryz.f22 [⟨.l_str, x0⟩, ⟨.l_str, x1⟩] = nboth_t G x0 x1 := by kernel_rfl
theorem nboth_f : Tryz.prog.funcs[22]? = some Tryz.f22 := by kernel_rfl
theorem nboth_n : (Tryz.f22.name == "runtime.NumGoroutine") = false := by kernel_rfl
theorem nboth_b : Tryz.f22.body.isNone = false := by kernel_rfl
theorem nboth_ex : ∃ fn, Tryz.prog.funcs[22]? = some fn ∧ (fn.name == "runtime.NumGoroutine") = false ∧ fn.body.isNone = false := ⟨Tryz.f22, nboth_f, nboth_n, nboth_b⟩
theorem nboth_hO : OracleOk E nboth_O := orac_ok (.cons nsorted_ok (.cons concat_ok .nil)) .nil .nil .nil
theorem nboth_ok_of (h : ∀ (x0 : List (List UInt8)) (x1 : List (List UInt8)), ln5 x0 x1 = true → nboth_t (Gr E Tryz.f22 [⟨.l_str, both x0 x1⟩]) x0 x1 = some [⟨.l_str, both x0 x1⟩]) : FnOk E nboth_id nboth_W := fn2_ok nboth_hO mix nboth_f nboth_n nboth_b (fun x0 x1 hk => (nboth_e _ x0 x1).trans (h x0 x1 hk))
theorem nboth_ok : FnOk E nboth_id nboth_W := nboth_ok_of fun a b hk => by
  simp only [ln5, decide_eq_true_eq] at hk
  have e : List.flatten [a, b] = a ++ b := by simp
  have h1 : okCat [a, b] = true := by simp only [okCat, lens, Bool.and_eq_true, decide_eq_true_eq]; simp; omega
  have h2 : ln6 (a ++ b) = true := by rw [ln6_iff, List.length_append]; omega
  simp only [nboth_t, h1, e, h2, cond_true]
  rfl
noncomputable def nat_W : FnW E := fn2 (E := E) .l_str .str .int (fun l _ => ln6 l) index
def nat_id : FuncId := 41
noncomputable def nat_O : Oracle E := orac [(54, index_W)] [] [] []
noncomputable def nat_H : Hint E := Hint.mk [] [] [] [] []
noncomputable def nat_t (_G : Nat → ASt E → Option (List (TV E))) (x0 : List (List UInt8)) (x1 : List UInt8) : Option (List (TV E)) :=
  bif ((fun l _ => ln6 l) x0 x1) then some [⟨.int, (index x0 x1)⟩] else none
theorem nat_e (G : Nat → ASt E → Option (List (TV E))) (x0 : List (List UInt8)) (x1 : List UInt8) : runE nat_O nat_H G Tryz.f41 [⟨.l_str, x0⟩, ⟨.str, x1⟩] = nat_t G x0 x1 := by kernel_rfl
theorem nat_f : Tryz.prog.funcs[41]? = some Tryz.f41 := by kernel_rfl
theorem nat_n : (Tryz.f41.name == "runtime.NumGoroutine") = false := by kernel_rfl
theorem nat_b : Tryz.f41.body.isNone = false := by kernel_rfl
theorem nat_ex : ∃ fn, Tryz.prog.funcs[41]? = some fn ∧ (fn.name == "runtime.NumGoroutine") = false ∧ fn.body.isNone = false := ⟨Tryz.f41, nat_f, nat_n, nat_b⟩
theorem nat_hO : OracleOk E nat_O := orac_ok (.cons index_ok .nil) .nil .nil .nil
theorem nat_ok_of (h : ∀ (x0 : List (List UInt8)) (x1 : List UInt8), (fun l _ => ln6 l) x0 x1 = true → nat_t (Gr E Tryz.f41 [⟨.int, index x0 x1⟩]) x0 x1 = some [⟨.int, index x0 x1⟩]) : FnOk E nat_id nat_W := fn2_ok nat_hO mix nat_f nat_n nat_b (fun x0 x1 hk => (nat_e _ x0 x1).trans (h x0 x1 hk))
theorem nat_ok : FnOk E nat_id nat_W := nat_ok_of fun l s hk => by simp only [nat_t, hk, cond_true]
end Go.Proofs.YtoelhlikomifjaaGreat.Rf