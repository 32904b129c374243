/- The reference's numbers (01), and the library's and the program's lists of texts, by the Mirror. -/
import Derived.Test.YtfoflgciceckoaaGreatDoorMirR
import Derived.Test.YtfoflgciceckoaaGreatDoorMirU
import Derived.Test.YtfoflgciceckoaaGreatDoorRows
import Derived.Test.YtfoflgciceckoaaGreatDoorShelf
import Derived.Test.YtfoflgciceckoaaGreatDoorPlain
import Derived.Sort.OwnSorted
import Derived.Lib.AppendZeros
namespace Go.Proofs.YtfoflgciceckoaaGreatDoor.Rf
open Go Go.RowKit Go.Sort Go.Proofs.YtfoflgciceckoaaGreatDoor.Mir
structure Node where
  kind : Int
  text : List UInt8
  keys : List (List UInt8)
  kids : List Node
structure form where
  n : Node
  bad : Bool
structure Port where
  host : List UInt8
  out : Int
  in_ : Int
  proto : List UInt8
structure Mount where
  source : List UInt8
  target : List UInt8
  readOnly : Bool
structure field where
  n : Node
  left : Int
  bad : Bool
structure Arr112 where
  e0 : List UInt8
  e1 : List UInt8
  e2 : List UInt8
  e3 : List UInt8
structure St120 where
  long : Int
  name : List UInt8
structure Arr121 where
  e0 : St120
  e1 : St120
  e2 : St120
  e3 : St120
structure budget where
  left : Int
structure Arr137 where
  e0 : Int
  e1 : Int
  e2 : Int
  e3 : Int
inductive Ty where
  | int | str | l_str | l_api_Node | api_Node | bool | api_Errno | norm_form | api_Port | fn71 | api_Mount | norm_field | byte | a4_str | l_byte | fn113 | st120 | a4_st120 | u64 | node_budget | a4_int | u64131
  deriving DecidableEq
abbrev Den : Ty → Type
  | .int => Int
  | .str => List UInt8
  | .l_str => List (List UInt8)
  | .l_api_Node => List Node
  | .api_Node => Node
  | .bool => Bool
  | .api_Errno => Int
  | .norm_form => form
  | .api_Port => Port
  | .fn71 => Nat
  | .api_Mount => Mount
  | .norm_field => field
  | .byte => Int
  | .a4_str => Arr112
  | .l_byte => List Int
  | .fn113 => Nat
  | .st120 => St120
  | .a4_st120 => Arr121
  | .u64 => Int
  | .node_budget => budget
  | .a4_int => Arr137
  | .u64131 => Int
def tid : Ty → TypeId
  | .int => 3
  | .str => 9
  | .l_str => 22
  | .l_api_Node => 23
  | .api_Node => 25
  | .bool => 4
  | .api_Errno => 30
  | .norm_form => 39
  | .api_Port => 41
  | .fn71 => 71
  | .api_Mount => 81
  | .norm_field => 92
  | .byte => 5
  | .a4_str => 112
  | .l_byte => 108
  | .fn113 => 113
  | .st120 => 120
  | .a4_st120 => 121
  | .u64 => 107
  | .node_budget => 133
  | .a4_int => 137
  | .u64131 => 131
def code : TypeId → Option Ty
  | 3 => some .int
  | 9 => some .str
  | 22 => some .l_str
  | 23 => some .l_api_Node
  | 25 => some .api_Node
  | 4 => some .bool
  | 30 => some .api_Errno
  | 39 => some .norm_form
  | 41 => some .api_Port
  | 71 => some .fn71
  | 81 => some .api_Mount
  | 92 => some .norm_field
  | 5 => some .byte
  | 112 => some .a4_str
  | 108 => some .l_byte
  | 113 => some .fn113
  | 120 => some .st120
  | 121 => some .a4_st120
  | 107 => some .u64
  | 133 => some .node_budget
  | 137 => some .a4_int
  | 131 => some .u64131
  | _ => none
def agg : Ty → Bool
  | .int => false
  | .str => false
  | .l_str => false
  | .l_api_Node => false
  | .api_Node => true
  | .bool => false
  | .api_Errno => false
  | .norm_form => true
  | .api_Port => true
  | .fn71 => false
  | .api_Mount => true
  | .norm_field => true
  | .byte => false
  | .a4_str => true
  | .l_byte => false
  | .fn113 => false
  | .st120 => true
  | .a4_st120 => true
  | .u64 => false
  | .node_budget => true
  | .a4_int => true
  | .u64131 => false
def size : Ty → Nat
  | .int => 1
  | .str => 1
  | .l_str => 1
  | .l_api_Node => 1
  | .api_Node => 4
  | .bool => 1
  | .api_Errno => 1
  | .norm_form => 5
  | .api_Port => 4
  | .fn71 => 1
  | .api_Mount => 3
  | .norm_field => 6
  | .byte => 1
  | .a4_str => 4
  | .l_byte => 1
  | .fn113 => 1
  | .st120 => 2
  | .a4_st120 => 8
  | .u64 => 1
  | .node_budget => 1
  | .a4_int => 4
  | .u64131 => 1
def bytes : Ty → Nat
  | .int => 8
  | .str => 16
  | .l_str => 24
  | .l_api_Node => 24
  | .api_Node => 72
  | .bool => 1
  | .api_Errno => 8
  | .norm_form => 80
  | .api_Port => 48
  | .fn71 => 8
  | .api_Mount => 40
  | .norm_field => 88
  | .byte => 1
  | .a4_str => 64
  | .l_byte => 24
  | .fn113 => 8
  | .st120 => 24
  | .a4_st120 => 96
  | .u64 => 8
  | .node_budget => 8
  | .a4_int => 32
  | .u64131 => 8
def cells : (t : Ty) → Den t → List (DVal Den)
  | .int, x => [.int .i64 x]
  | .str, x => [.str x]
  | .l_str, x => [.slice .str x]
  | .l_api_Node, x => [.slice .api_Node x]
  | .api_Node, x => [.int .i64 x.kind, .str x.text, .slice .str x.keys, .slice .api_Node x.kids]
  | .bool, x => [.bool x]
  | .api_Errno, x => [.int .i64 x]
  | .norm_form, x => [.int .i64 x.n.kind, .str x.n.text, .slice .str x.n.keys, .slice .api_Node x.n.kids, .bool x.bad]
  | .api_Port, x => [.str x.host, .int .i64 x.out, .int .i64 x.in_, .str x.proto]
  | .fn71, x => [.raw (.func (.func x) #[] #[])]
  | .api_Mount, x => [.str x.source, .str x.target, .bool x.readOnly]
  | .norm_field, x => [.int .i64 x.n.kind, .str x.n.text, .slice .str x.n.keys, .slice .api_Node x.n.kids, .int .i64 x.left, .bool x.bad]
  | .byte, x => [.int .u8 x]
  | .a4_str, x => [.str x.e0, .str x.e1, .str x.e2, .str x.e3]
  | .l_byte, x => [.slice .byte x]
  | .fn113, x => [.raw (.func (.func x) #[] #[])]
  | .st120, x => [.int .i64 x.long, .str x.name]
  | .a4_st120, x => [.int .i64 x.e0.long, .str x.e0.name, .int .i64 x.e1.long, .str x.e1.name, .int .i64 x.e2.long, .str x.e2.name, .int .i64 x.e3.long, .str x.e3.name]
  | .u64, x => [.int .u64 x]
  | .node_budget, x => [.int .i64 x.left]
  | .a4_int, x => [.int .i64 x.e0, .int .i64 x.e1, .int .i64 x.e2, .int .i64 x.e3]
  | .u64131, x => [.int .u64 x]
def dec : DecidableEq Ty := inferInstance
def fold : (t : Ty) → List (DVal Den) → Option (Den t)
  | .int, [c] => dInt .i64 c
  | .str, [c] => dStr c
  | .l_str, [c] => dSl dec .str c
  | .l_api_Node, [c] => dSl dec .api_Node c
  | .api_Node, [c0, c1, c2, c3] => match dInt .i64 c0, dStr c1, dSl dec .str c2, dSl dec .api_Node c3 with | some y0, some y1, some y2, some y3 => some (⟨y0, y1, y2, y3⟩ : Node) | _, _, _, _ => none
  | .bool, [c] => dBl c
  | .api_Errno, [c] => dInt .i64 c
  | .norm_form, [c0, c1, c2, c3, c4] => match dInt .i64 c0, dStr c1, dSl dec .str c2, dSl dec .api_Node c3, dBl c4 with | some y0, some y1, some y2, some y3, some y4 => some (⟨(⟨y0, y1, y2, y3⟩ : Node), y4⟩ : form) | _, _, _, _, _ => none
  | .api_Port, [c0, c1, c2, c3] => match dStr c0, dInt .i64 c1, dInt .i64 c2, dStr c3 with | some y0, some y1, some y2, some y3 => some (⟨y0, y1, y2, y3⟩ : Port) | _, _, _, _ => none
  | .fn71, [c] => dFn c
  | .api_Mount, [c0, c1, c2] => match dStr c0, dStr c1, dBl c2 with | some y0, some y1, some y2 => some (⟨y0, y1, y2⟩ : Mount) | _, _, _ => none
  | .norm_field, [c0, c1, c2, c3, c4, c5] => match dInt .i64 c0, dStr c1, dSl dec .str c2, dSl dec .api_Node c3, dInt .i64 c4, dBl c5 with | some y0, some y1, some y2, some y3, some y4, some y5 => some (⟨(⟨y0, y1, y2, y3⟩ : Node), y4, y5⟩ : field) | _, _, _, _, _, _ => none
  | .byte, [c] => dInt .u8 c
  | .a4_str, [c0, c1, c2, c3] => match dStr c0, dStr c1, dStr c2, dStr c3 with | some y0, some y1, some y2, some y3 => some (⟨y0, y1, y2, y3⟩ : Arr112) | _, _, _, _ => none
  | .l_byte, [c] => dSl dec .byte c
  | .fn113, [c] => dFn c
  | .st120, [c0, c1] => match dInt .i64 c0, dStr c1 with | some y0, some y1 => some (⟨y0, y1⟩ : St120) | _, _ => none
  | .a4_st120, [c0, c1, c2, c3, c4, c5, c6, c7] => match dInt .i64 c0, dStr c1, dInt .i64 c2, dStr c3, dInt .i64 c4, dStr c5, dInt .i64 c6, dStr c7 with | some y0, some y1, some y2, some y3, some y4, some y5, some y6, some y7 => some (⟨(⟨y0, y1⟩ : St120), (⟨y2, y3⟩ : St120), (⟨y4, y5⟩ : St120), (⟨y6, y7⟩ : St120)⟩ : Arr121) | _, _, _, _, _, _, _, _ => none
  | .u64, [c] => dInt .u64 c
  | .node_budget, [c0] => match dInt .i64 c0 with | some y0 => some (⟨y0⟩ : budget) | _ => none
  | .a4_int, [c0, c1, c2, c3] => match dInt .i64 c0, dInt .i64 c1, dInt .i64 c2, dInt .i64 c3 with | some y0, some y1, some y2, some y3 => some (⟨y0, y1, y2, y3⟩ : Arr137) | _, _, _, _ => none
  | .u64131, [c] => dInt .u64 c
  | _, _ => none
def dflt : (t : Ty) → Den t
  | .int => (0 : Int)
  | .str => []
  | .l_str => []
  | .l_api_Node => []
  | .api_Node => ⟨(0 : Int), [], [], []⟩
  | .bool => false
  | .api_Errno => (0 : Int)
  | .norm_form => ⟨⟨(0 : Int), [], [], []⟩, false⟩
  | .api_Port => ⟨[], (0 : Int), (0 : Int), []⟩
  | .fn71 => (0 : Nat)
  | .api_Mount => ⟨[], [], false⟩
  | .norm_field => ⟨⟨(0 : Int), [], [], []⟩, (0 : Int), false⟩
  | .byte => (0 : Int)
  | .a4_str => ⟨[], [], [], []⟩
  | .l_byte => []
  | .fn113 => (0 : Nat)
  | .st120 => ⟨(0 : Int), []⟩
  | .a4_st120 => ⟨⟨(0 : Int), []⟩, ⟨(0 : Int), []⟩, ⟨(0 : Int), []⟩, ⟨(0 : Int), []⟩⟩
  | .u64 => (0 : Int)
  | .node_budget => ⟨(0 : Int)⟩
  | .a4_int => ⟨(0 : Int), (0 : Int), (0 : Int), (0 : Int)⟩
  | .u64131 => (0 : Int)
def byteT : (t : Ty) → Option (Den t → Int)
  | .byte => some fun x => x
  | _ => none
theorem byte_ok : ∀ t f, byteT t = some f → ∀ x, cells t x = [.int .u8 (f x)] := by
  intro t f h x
  cases t <;> first | (cases h; rfl) | cases h
def byteU : (t : Ty) → Option (Int → Den t)
  | .byte => some fun x => x
  | _ => none
theorem byteU_ok : ∀ t g, byteU t = some g → ∀ n, cells t (g n) = [.int .u8 n] := by
  intro t g h n
  cases t <;> first | (cases h; rfl) | cases h
theorem fold_ok : ∀ t cs x, fold t cs = some x → CsLe cs (cells t x) := by
  intro t cs x h
  cases t
  case int => match cs, h with | [c], h => exact ⟨dInt_le h, trivial⟩
  case str => match cs, h with | [c], h => exact ⟨dStr_le h, trivial⟩
  case l_str => match cs, h with | [c], h => exact ⟨dSl_le h, trivial⟩
  case l_api_Node => match cs, h with | [c], h => exact ⟨dSl_le h, trivial⟩
  case api_Node =>
    match cs, h with
    | [c0, c1, c2, c3], h =>
      simp only [fold] at h
      split at h
      · rename_i h0 h1 h2 h3; cases h; exact ⟨dInt_le h0, dStr_le h1, dSl_le h2, dSl_le h3, trivial⟩
      · cases h
  case bool => match cs, h with | [c], h => exact ⟨dBl_le h, trivial⟩
  case api_Errno => match cs, h with | [c], h => exact ⟨dInt_le h, trivial⟩
  case norm_form =>
    match cs, h with
    | [c0, c1, c2, c3, c4], h =>
      simp only [fold] at h
      split at h
      · rename_i h0 h1 h2 h3 h4; cases h; exact ⟨dInt_le h0, dStr_le h1, dSl_le h2, dSl_le h3, dBl_le h4, trivial⟩
      · cases h
  case api_Port =>
    match cs, h with
    | [c0, c1, c2, c3], h =>
      simp only [fold] at h
      split at h
      · rename_i h0 h1 h2 h3; cases h; exact ⟨dStr_le h0, dInt_le h1, dInt_le h2, dStr_le h3, trivial⟩
      · cases h
  case fn71 => match cs, h with | [c], h => exact ⟨dFn_le h, trivial⟩
  case api_Mount =>
    match cs, h with
    | [c0, c1, c2], h =>
      simp only [fold] at h
      split at h
      · rename_i h0 h1 h2; cases h; exact ⟨dStr_le h0, dStr_le h1, dBl_le h2, trivial⟩
      · cases h
  case norm_field =>
    match cs, h with
    | [c0, c1, c2, c3, c4, c5], h =>
      simp only [fold] at h
      split at h
      · rename_i h0 h1 h2 h3 h4 h5; cases h; exact ⟨dInt_le h0, dStr_le h1, dSl_le h2, dSl_le h3, dInt_le h4, dBl_le h5, trivial⟩
      · cases h
  case byte => match cs, h with | [c], h => exact ⟨dInt_le h, trivial⟩
  case a4_str =>
    match cs, h with
    | [c0, c1, c2, c3], h =>
      simp only [fold] at h
      split at h
      · rename_i h0 h1 h2 h3; cases h; exact ⟨dStr_le h0, dStr_le h1, dStr_le h2, dStr_le h3, trivial⟩
      · cases h
  case l_byte => match cs, h with | [c], h => exact ⟨dSl_le h, trivial⟩
  case fn113 => match cs, h with | [c], h => exact ⟨dFn_le h, trivial⟩
  case st120 =>
    match cs, h with
    | [c0, c1], h =>
      simp only [fold] at h
      split at h
      · rename_i h0 h1; cases h; exact ⟨dInt_le h0, dStr_le h1, trivial⟩
      · cases h
  case a4_st120 =>
    match cs, h with
    | [c0, c1, c2, c3, c4, c5, c6, c7], h =>
      simp only [fold] at h
      split at h
      · rename_i h0 h1 h2 h3 h4 h5 h6 h7; cases h; exact ⟨dInt_le h0, dStr_le h1, dInt_le h2, dStr_le h3, dInt_le h4, dStr_le h5, dInt_le h6, dStr_le h7, trivial⟩
      · cases h
  case u64 => match cs, h with | [c], h => exact ⟨dInt_le h, trivial⟩
  case node_budget =>
    match cs, h with
    | [c0], h =>
      simp only [fold] at h
      split at h
      · rename_i h0; cases h; exact ⟨dInt_le h0, trivial⟩
      · cases h
  case a4_int =>
    match cs, h with
    | [c0, c1, c2, c3], h =>
      simp only [fold] at h
      split at h
      · rename_i h0 h1 h2 h3; cases h; exact ⟨dInt_le h0, dInt_le h1, dInt_le h2, dInt_le h3, trivial⟩
      · cases h
  case u64131 => match cs, h with | [c], h => exact ⟨dInt_le h, trivial⟩
theorem code_ok : ∀ i t, code i = some t → i = tid t := by
  intro i t h
  unfold code at h
  split at h <;> first | (cases h; rfl) | cases h
theorem info_ok : ∀ t, ∃ i z, Tryz.prog.info? (tid t) = some i ∧ i.size = size t ∧ i.bytes = bytes t ∧ i.zero = some z ∧ z.cells.size = size t := by
  intro t
  refine info_of ?_ rfl
  cases t <;> kernel_rfl
theorem agg_ok : ∀ t, isAggT Tryz.prog (tid t) = agg t := by intro t; cases t <;> kernel_rfl
theorem und_ok : ∀ t, (Tryz.prog.underlying (tid t)).isSome = true := by intro t; cases t <;> kernel_rfl
abbrev E : Env Tryz.prog where
  Ty := Ty
  dec := dec
  Den := Den
  tid := tid
  code := code
  agg := agg
  size := size
  bytes := bytes
  cells := cells
  fold := fold
  code_ok := code_ok
  info_ok := info_ok
  agg_ok := agg_ok
  und_ok := und_ok
  size_pos := by intro t; cases t <;> decide
  bytes_pos := by intro t; cases t <;> decide
  one := by intro t h; cases t <;> first | rfl | cases h
  cells_len := by intro t x; cases t <;> rfl
  dflt := dflt
  fold_ok := fold_ok
  byteT := byteT
  byteU := byteU
  byte_ok := byte_ok
  byteU_ok := byteU_ok
theorem mix : Tryz.prog.follows .mixedOrders = true := by kernel_rfl
def w64 (n : Int) : Int := IntKind.wrap .i64 n
/-! ### Small facts -/
theorem w64_id {n : Int} (h : -9223372036854775808 ≤ n) (h' : n ≤ 9223372036854775807) : w64 n = n := by
  unfold w64
  rw [IntKind.wrap_i64]
  omega
theorem gd {α : Type} (l : List α) (d : α) (i : Nat) (h : i < l.length) : List.getD l (Int.toNat (i : Int)) d = l[i] := by
  rw [Int.toNat_natCast, List.getD, List.getElem?_eq_getElem h]; rfl
theorem d0 (i : Nat) : decide ((0 : Int) ≤ (i : Int)) = true := by simp
theorem dlt {i n : Nat} (h : i < n) : decide ((i : Int) < (n : Int)) = true := by simp only [decide_eq_true_eq]; omega
theorem dge {i n : Nat} (h : n ≤ i) : decide ((i : Int) < (n : Int)) = false := by simp only [decide_eq_false_iff_not]; omega
theorem dT {p : Prop} [Decidable p] (h : p) : decide p = true := decide_eq_true h
theorem dF {p : Prop} [Decidable p] (h : ¬ p) : decide p = false := decide_eq_false h
theorem neT {a b : Int} (h : a ≠ b) : (a != b) = true := by simpa using h
theorem neF {a b : Int} (h : a = b) : (a != b) = false := by simp [h]
theorem eqT {a b : Int} (h : a = b) : (a == b) = true := by simp [h]
theorem eqF {a b : Int} (h : a ≠ b) : (a == b) = false := by simpa using h
theorem mb : maxBytes = 140737488355328 := rfl
/-! ### The reference's digits (01) -/
theorem wu64 (n : Int) : IntKind.wrap .u64 n = n % 18446744073709551616 := by simp [IntKind.wrap, IntKind.bits, IntKind.signed]
theorem wu8 (n : Int) : IntKind.wrap .u8 n = n % 256 := by simp [IntKind.wrap, IntKind.bits, IntKind.signed]
theorem u64_id {n : Int} (h : 0 ≤ n) (h' : n < 18446744073709551616) : IntKind.wrap .u64 n = n := by rw [wu64]; omega
theorem u8_id {n : Int} (h : 0 ≤ n) (h' : n < 256) : IntKind.wrap .u8 n = n := by rw [wu8]; omega
theorem ms : maxStr = 4611686018427387904 := rfl
theorem dAnd {p q : Prop} [Decidable p] [Decidable q] : (decide p && decide q) = decide (p ∧ q) := by simp
def dg (n : Nat) : UInt8 := UInt8.ofNat (48 + n)
/-- The digits of a number. -/
def digsF : Nat → Nat → List UInt8
  | 0, _ => []
  | f + 1, u => if u < 10 then [dg u] else digsF f (u / 10) ++ [dg (u % 10)]
def digs (u : Nat) : List UInt8 := digsF 20 u
theorem digsF_len : ∀ (f u : Nat), (digsF f u).length ≤ f
  | 0, _ => Nat.le_refl _
  | f + 1, u => by
    unfold digsF
    split
    · simp
    · have := digsF_len f (u / 10)
      rw [List.length_append, List.length_singleton]; omega
def digitsV (u : Int) : List UInt8 := digs u.toNat
def textV (n : Int) : List UInt8 := bif decide (n < 0) then 45 :: digs (-n).toNat else digs n.toNat
theorem textV_len (n : Int) : (textV n).length ≤ 21 := by
  unfold textV digs
  cases decide (n < 0) with
  | true => have := digsF_len 20 (-n).toNat; simp only [cond_true, List.length_cons]; omega
  | false => have := digsF_len 20 n.toNat; simp only [cond_false]; omega
def okU (u : Int) : Bool := decide (0 ≤ u ∧ u < 18446744073709551616)
noncomputable def rdigits_W : FnW E := fn1 (E := E) .u64 .str okU digitsV
def rdigits_id : FuncId := 149
noncomputable def rdigits_O : Oracle E := orac [] [] [] []
noncomputable def rdigits_H : Hint E := Hint.mk [(0, [0, 3])] [] [] [] []
noncomputable def rdigits_C0 (v0 : Int) (v1 : List UInt8) : ASt E := ASt.mk 23 [(0, .d (.int .u64 v0)), (3, .d (.str v1))] [] 0
noncomputable def rdigits_t (G : Nat → ASt E → Option (List (TV E))) (x0 : Int) : Option (List (TV E)) :=
  G 0 (rdigits_C0 x0 ([] : List UInt8))
theorem rdigits_e (G : Nat → ASt E → Option (List (TV E))) (x0 : Int) : runE rdigits_O rdigits_H G Tryz.f149 [⟨.u64, x0⟩] = rdigits_t G x0 := by kernel_rfl
noncomputable def rdigits_t0 (G : Nat → ASt E → Option (List (TV E))) (v0 : Int) (v1 : List UInt8) : Option (List (TV E)) :=
  bif (decide ((10 : Int) ≤ v0)) then (bif (!((10 : Int) == (0 : Int))) then (bif (decide ((List.map (fun y => UInt8.ofNat (Int.toNat y)) ([(IntKind.wrap .u8 (IntKind.wrap .u64 ((48 : Int) + (Int.tmod v0 (10 : Int)))))] : List Int)).length + v1.length ≤ maxStr)) then (bif (!((10 : Int) == (0 : Int))) then G 0 (rdigits_C0 (IntKind.wrap .u64 (Int.tdiv v0 (10 : Int))) ((List.map (fun y => UInt8.ofNat (Int.toNat y)) ([(IntKind.wrap .u8 (IntKind.wrap .u64 ((48 : Int) + (Int.tmod v0 (10 : Int)))))] : List Int)) ++ v1)) else none) else none) else none) else (bif (decide ((List.map (fun y => UInt8.ofNat (Int.toNat y)) ([(IntKind.wrap .u8 (IntKind.wrap .u64 ((48 : Int) + v0)))] : List Int)).length + v1.length ≤ maxStr)) then some [⟨.str, ((List.map (fun y => UInt8.ofNat (Int.toNat y)) ([(IntKind.wrap .u8 (IntKind.wrap .u64 ((48 : Int) + v0)))] : List Int)) ++ v1)⟩] else none)
theorem rdigits_l0 (G : Nat → ASt E → Option (List (TV E))) (v0 : Int) (v1 : List UInt8) : runL rdigits_O rdigits_H G Tryz.f149 0 (rdigits_C0 v0 v1) = rdigits_t0 G v0 v1 := by kernel_rfl
theorem rdigits_f : Tryz.prog.funcs[149]? = some Tryz.f149 := by kernel_rfl
theorem rdigits_n : (Tryz.f149.name == "runtime.NumGoroutine") = false := by kernel_rfl
theorem rdigits_b : Tryz.f149.body.isNone = false := by kernel_rfl
theorem rdigits_ex : ∃ fn, Tryz.prog.funcs[149]? = some fn ∧ (fn.name == "runtime.NumGoroutine") = false ∧ fn.body.isNone = false := ⟨Tryz.f149, rdigits_f, rdigits_n, rdigits_b⟩
theorem rdigits_hO : OracleOk E rdigits_O := orac_ok .nil .nil .nil .nil
theorem rdigits_s0 {res : List (TV E)} {v0 : Int} {v1 : List UInt8} (h : rdigits_t0 (Gr E Tryz.f149 res) v0 v1 = some res) : Ev E Tryz.f149 res 0 (rdigits_C0 v0 v1) := Ev.step rdigits_hO mix ((rdigits_l0 _ v0 v1).trans h)
theorem rdigits_ok_of (h : ∀ (x0 : Int), okU x0 = true → rdigits_t (Gr E Tryz.f149 [⟨.str, digitsV x0⟩]) x0 = some [⟨.str, digitsV x0⟩]) : FnOk E rdigits_id rdigits_W := fn1_ok rdigits_hO mix rdigits_f rdigits_n rdigits_b (fun x0 hk => (rdigits_e _ x0).trans (h x0 hk))
theorem dg_eq {n : Int} (h : 0 ≤ n) (h' : n < 10) : UInt8.ofNat (Int.toNat (IntKind.wrap .u8 (IntKind.wrap .u64 (48 + n)))) = dg n.toNat := by
  rw [u64_id (by omega) (by omega), u8_id (by omega) (by omega)]
  unfold dg
  rw [show (48 + n).toNat = 48 + n.toNat from by omega]
theorem rdigits_0 : ∀ (f u : Nat) (s : List UInt8), 1 ≤ f → u < 10 ^ f → u < 18446744073709551616 → s.length ≤ 1000 → s.length + f ≤ 1000 →
    Ev E Tryz.f149 [⟨.str, digsF f u ++ s⟩] 0 (rdigits_C0 u s) := by
  intro f
  induction f with
  | zero => intro u s h; omega
  | succ f ih =>
    intro u s h1 h2 h3 h4 h5
    refine rdigits_s0 ?_
    simp only [rdigits_t0, List.map_cons, List.map_nil, List.length_singleton]
    rw [dT (show 1 + s.length ≤ maxStr by rw [ms]; omega)]
    unfold digsF
    by_cases hu : u < 10
    · rw [dF (by omega), cond_false, cond_true, if_pos hu, dg_eq (by omega) (by omega), Int.toNat_natCast]
    · rw [dT (by omega), cond_true, show (!((10 : Int) == 0)) = true from rfl, cond_true, cond_true, cond_true, if_neg hu]
      have e1 : Int.tmod (u : Int) 10 = ((u % 10 : Nat) : Int) := rfl
      have e2 : Int.tdiv (u : Int) 10 = ((u / 10 : Nat) : Int) := rfl
      rw [e1, e2, dg_eq (by omega) (by omega), u64_id (by omega) (by omega), Int.toNat_natCast]
      have h10 : 10 ^ (f + 1) = 10 * 10 ^ f := by rw [Nat.pow_succ, Nat.mul_comm]
      have hf : 1 ≤ f := by
        rcases Nat.eq_zero_or_pos f with rfl | h
        · omega
        · exact h
      have := Gr_of (ih (u / 10) ([dg (u % 10)] ++ s) hf (by omega) (by omega) (by simp; omega) (by simp; omega))
      rw [← List.append_assoc] at this
      exact this
theorem rdigits_ok : FnOk E rdigits_id rdigits_W := rdigits_ok_of fun u hk => by
  have hk : 0 ≤ u ∧ u < 18446744073709551616 := by simpa [okU] using hk
  obtain ⟨n, rfl⟩ : ∃ n : Nat, u = n := ⟨u.toNat, by omega⟩
  simp only [rdigits_t, digitsV, Int.toNat_natCast, digs]
  have := Gr_of (rdigits_0 20 n [] (by omega) (by have : (10 : Nat) ^ 20 = 100000000000000000000 := by decide
                                                  omega) (by omega) (by simp) (by simp))
  rw [List.append_nil] at this
  exact this
def okI (n : Int) : Bool := decide (-9223372036854775808 ≤ n ∧ n ≤ 9223372036854775807)
noncomputable def rtext_W : FnW E := fn1 (E := E) .int .str okI textV
def rtext_id : FuncId := 106
noncomputable def rtext_O : Oracle E := orac [(149, rdigits_W)] [] [] []
noncomputable def rtext_H : Hint E := Hint.mk [] [] [] [] []
noncomputable def rtext_t (_G : Nat → ASt E → Option (List (TV E))) (x0 : Int) : Option (List (TV E)) :=
  bif (decide (x0 < (0 : Int))) then (bif (okU (IntKind.wrap .u64 ((0 : Int) - (IntKind.wrap .u64 x0)))) then (bif (decide (([45] : List UInt8).length + (digitsV (IntKind.wrap .u64 ((0 : Int) - (IntKind.wrap .u64 x0)))).length ≤ maxStr)) then some [⟨.str, (([45] : List UInt8) ++ (digitsV (IntKind.wrap .u64 ((0 : Int) - (IntKind.wrap .u64 x0)))))⟩] else none) else none) else (bif (okU (IntKind.wrap .u64 x0)) then some [⟨.str, (digitsV (IntKind.wrap .u64 x0))⟩] else none)
theorem rtext_e (G : Nat → ASt E → Option (List (TV E))) (x0 : Int) : runE rtext_O rtext_H G Tryz.f106 [⟨.int, x0⟩] = rtext_t G x0 := by kernel_rfl
theorem rtext_f : Tryz.prog.funcs[106]? = some Tryz.f106 := by kernel_rfl
theorem rtext_n : (Tryz.f106.name == "runtime.NumGoroutine") = false := by kernel_rfl
theorem rtext_b : Tryz.f106.body.isNone = false := by kernel_rfl
theorem rtext_ex : ∃ fn, Tryz.prog.funcs[106]? = some fn ∧ (fn.name == "runtime.NumGoroutine") = false ∧ fn.body.isNone = false := ⟨Tryz.f106, rtext_f, rtext_n, rtext_b⟩
theorem rtext_hO : OracleOk E rtext_O := orac_ok (.cons rdigits_ok .nil) .nil .nil .nil
theorem rtext_ok_of (h : ∀ (x0 : Int), okI x0 = true → rtext_t (Gr E Tryz.f106 [⟨.str, textV x0⟩]) x0 = some [⟨.str, textV x0⟩]) : FnOk E rtext_id rtext_W := fn1_ok rtext_hO mix rtext_f rtext_n rtext_b (fun x0 hk => (rtext_e _ x0).trans (h x0 hk))
theorem rtext_ok : FnOk E rtext_id rtext_W := rtext_ok_of fun n hk => by
  have hk : -9223372036854775808 ≤ n ∧ n ≤ 9223372036854775807 := by simpa [okI] using hk
  simp only [rtext_t, textV]
  by_cases h : n < 0
  · have e : IntKind.wrap .u64 ((0 : Int) - IntKind.wrap .u64 n) = -n := by rw [wu64, wu64]; omega
    have hl : (digitsV (-n)).length ≤ 20 := digsF_len 20 _
    have ho : okU (-n) = true := by simp [okU]; omega
    rw [dT h, e]
    simp only [cond_true, ho]
    rw [dT (show [(45 : UInt8)].length + (digitsV (-n)).length ≤ maxStr by rw [ms, List.length_singleton]; omega)]
    rfl
  · have ho : okU n = true := by simp [okU]; omega
    have e : IntKind.wrap .u64 n = n := u64_id (by omega) (by omega)
    rw [dF h, e]
    simp only [cond_false, ho, cond_true]
    rfl
/-! Whole numbers' texts -/
def isD (c : UInt8) : Bool := decide (48 ≤ c.toNat) && decide (c.toNat ≤ 57)
def lead0 (s : List UInt8) : Bool := match s with
  | [] => true
  | [_] => false
  | c :: _ => c == 48
/-- The text of a number from 0 on. -/
def wholeB (s : List UInt8) : Bool := !(lead0 s) && s.all isD
def okL1 (s : List UInt8) : Bool := decide (s.length ≤ 1000000)
theorem okL1_iff {s : List UInt8} : okL1 s = true ↔ s.length ≤ 1000000 := by simp [okL1]
noncomputable def rwhole_W : FnW E := fn1 (E := E) .str .bool okL1 wholeB
def rwhole_id : FuncId := 133
noncomputable def rwhole_O : Oracle E := orac [] [] [] []
noncomputable def rwhole_H : Hint E := Hint.mk [(0, [0, 3])] [] [] [] []
noncomputable def rwhole_C0 (v0 : List UInt8) (v1 : Int) : ASt E := ASt.mk 33 [(0, .d (.str v0)), (3, .d (.int .i64 v1))] [] 0
noncomputable def rwhole_t (G : Nat → ASt E → Option (List (TV E))) (x0 : List UInt8) : Option (List (TV E)) :=
  bif ((decide ((0 : Int) ≤ (0 : Int)) && decide ((0 : Int) < (x0.length : Int))) || !((!((x0.length : Int) == (0 : Int))) && (decide ((1 : Int) < (x0.length : Int))))) then (bif (bif ((x0.length : Int) == (0 : Int)) then true else (bif (decide ((1 : Int) < (x0.length : Int))) then ((((List.getD x0 (Int.toNat (0 : Int)) 0).toNat : Nat) : Int) == (48 : Int)) else false)) then some [⟨.bool, false⟩] else G 0 (rwhole_C0 x0 (0 : Int))) else none
theorem rwhole_e (G : Nat → ASt E → Option (List (TV E))) (x0 : List UInt8) : runE rwhole_O rwhole_H G Tryz.f133 [⟨.str, x0⟩] = rwhole_t G x0 := by kernel_rfl
noncomputable def rwhole_t0 (G : Nat → ASt E → Option (List (TV E))) (v0 : List UInt8) (v1 : Int) : Option (List (TV E)) :=
  bif (decide (v1 < (v0.length : Int))) then (bif (decide ((0 : Int) ≤ v1) && decide (v1 < (v0.length : Int))) then (bif ((decide ((0 : Int) ≤ v1) && decide (v1 < (v0.length : Int))) || !(!(decide ((((List.getD v0 (Int.toNat v1) 0).toNat : Nat) : Int) < (48 : Int))))) then (bif (bif (decide ((((List.getD v0 (Int.toNat v1) 0).toNat : Nat) : Int) < (48 : Int))) then true else (decide ((57 : Int) < (((List.getD v0 (Int.toNat v1) 0).toNat : Nat) : Int)))) then some [⟨.bool, false⟩] else G 0 (rwhole_C0 v0 (w64 (v1 + (1 : Int))))) else none) else none) else some [⟨.bool, true⟩]
theorem rwhole_l0 (G : Nat → ASt E → Option (List (TV E))) (v0 : List UInt8) (v1 : Int) : runL rwhole_O rwhole_H G Tryz.f133 0 (rwhole_C0 v0 v1) = rwhole_t0 G v0 v1 := by kernel_rfl
theorem rwhole_f : Tryz.prog.funcs[133]? = some Tryz.f133 := by kernel_rfl
theorem rwhole_n : (Tryz.f133.name == "runtime.NumGoroutine") = false := by kernel_rfl
theorem rwhole_b : Tryz.f133.body.isNone = false := by kernel_rfl
theorem rwhole_ex : ∃ fn, Tryz.prog.funcs[133]? = some fn ∧ (fn.name == "runtime.NumGoroutine") = false ∧ fn.body.isNone = false := ⟨Tryz.f133, rwhole_f, rwhole_n, rwhole_b⟩
theorem rwhole_hO : OracleOk E rwhole_O := orac_ok .nil .nil .nil .nil
theorem rwhole_s0 {res : List (TV E)} {v0 : List UInt8} {v1 : Int} (h : rwhole_t0 (Gr E Tryz.f133 res) v0 v1 = some res) : Ev E Tryz.f133 res 0 (rwhole_C0 v0 v1) := Ev.step rwhole_hO mix ((rwhole_l0 _ v0 v1).trans h)
theorem rwhole_ok_of (h : ∀ (x0 : List UInt8), okL1 x0 = true → rwhole_t (Gr E Tryz.f133 [⟨.bool, wholeB x0⟩]) x0 = some [⟨.bool, wholeB x0⟩]) : FnOk E rwhole_id rwhole_W := fn1_ok rwhole_hO mix rwhole_f rwhole_n rwhole_b (fun x0 hk => (rwhole_e _ x0).trans (h x0 hk))
theorem bad1_eq (c : UInt8) : (bif decide ((c.toNat : Int) < 48) then true else decide (57 < (c.toNat : Int))) = !(isD c) := by
  unfold isD
  by_cases h1 : c.toNat < 48
  · rw [dT (by omega), dF (show ¬ 48 ≤ c.toNat by omega)]; rfl
  · by_cases h2 : 57 < c.toNat
    · rw [dF (by omega), dT (by omega), dT (show 48 ≤ c.toNat by omega), dF (by omega)]; rfl
    · rw [dF (by omega), dF (by omega), dT (show 48 ≤ c.toNat by omega), dT (by omega)]; rfl
theorem rwhole_0 (s : List UInt8) (hs : s.length ≤ 1000000) : ∀ (m i : Nat), s.length - i = m → i ≤ s.length → 
    Ev E Tryz.f133 [⟨.bool, (s.drop i).all isD⟩] 0 (rwhole_C0 s i) := by
  intro m
  induction m with
  | zero =>
    intro i  h1 h2
    refine rwhole_s0 ?_
    simp only [rwhole_t0, dge (show s.length ≤ i by omega), cond_false, List.drop_eq_nil_of_le (show s.length ≤ i by omega)]
    rfl
  | succ m ih2 =>
    intro i  h1 h2
    have hi : i < s.length := by omega
    have e3 : w64 ((i : Int) + 1) = ((i + 1 : Nat) : Int) := by rw [w64_id (by omega) (by omega)]; omega
    refine rwhole_s0 ?_
    simp only [rwhole_t0, dlt hi, d0, gd s _ i hi, e3, Bool.and_self, Bool.true_or, cond_true, bad1_eq]
    rw [← List.getElem_cons_drop hi]
    rw [List.all_cons]
    cases isD s[i] with
    | false => rfl
    | true => exact Gr_of (ih2 (i + 1) (by omega) (by omega))
theorem c48 (c : UInt8) : ((c.toNat : Int) == (48 : Int)) = (c == 48) := by
  by_cases h : c = 48
  · subst h; rfl
  · rw [eqF (fun e => h (UInt8.toNat_inj.1 (show c.toNat = 48 by have e : (c.toNat : Int) = 48 := e; omega)))]
    simpa using h
theorem rwhole_ok : FnOk E rwhole_id rwhole_W := rwhole_ok_of fun s hk => by
  have hs := okL1_iff.1 hk
  have := Gr_of (rwhole_0 s hs s.length 0 (by omega) (by omega))
  rw [List.drop_zero] at this
  unfold wholeB
  simp only [rwhole_t]
  match s, hs, this with
  | [], _, _ => rfl
  | [c], _, this => exact this
  | c :: d :: t, hs, this =>
    have e1 : ((((c :: d :: t).length : Nat) : Int) == 0) = false := eqF (by simp only [List.length_cons]; omega)
    have e2 : decide ((1 : Int) < ((c :: d :: t).length : Int)) = true := dT (by simp only [List.length_cons]; omega)
    have e3 : decide ((0 : Int) < ((c :: d :: t).length : Int)) = true := dT (by simp only [List.length_cons]; omega)
    have e4 : List.getD (c :: d :: t) (Int.toNat 0) 0 = c := rfl
    simp only [e1, e2, e3, e4, c48, lead0, Bool.not_false, cond_false, cond_true]
    cases c == 48 with
    | true => rfl
    | false => exact this
/-! Values -/
def valN : List UInt8 → Nat → Nat
  | [], n => n
  | c :: t, n => valN t (n * 10 + (c.toNat - 48))
theorem valN_ge : ∀ (s : List UInt8) (n : Nat), n ≤ valN s n
  | [], n => Nat.le_refl _
  | c :: t, n => Nat.le_trans (by omega) (valN_ge t (n * 10 + (c.toNat - 48)))
theorem isD_iff {c : UInt8} : isD c = true ↔ 48 ≤ c.toNat ∧ c.toNat ≤ 57 := by simp [isD]
theorem valN_lt : ∀ (s : List UInt8) (n : Nat), s.all isD = true → valN s n < (n + 1) * 10 ^ s.length
  | [], n, _ => by simp [valN]
  | c :: t, n, h => by
    rw [List.all_cons, Bool.and_eq_true] at h
    have h1 := isD_iff.1 h.1
    have := valN_lt t (n * 10 + (c.toNat - 48)) h.2
    unfold valN
    refine Nat.lt_of_lt_of_le this ?_
    rw [List.length_cons, Nat.pow_succ, Nat.mul_comm (10 ^ t.length) 10, ← Nat.mul_assoc]
    exact Nat.mul_le_mul_right _ (by omega)
def satV (n : Nat) : Int := bif decide (n < 72057594037927936) then (n : Int) else 1152921504606846976
theorem satV_lt {n : Nat} (h : n < 72057594037927936) : satV n = n := by unfold satV; rw [dT h]; rfl
theorem satV_ge {n : Nat} (h : ¬ n < 72057594037927936) : satV n = 1152921504606846976 := by unfold satV; rw [dF h]; rfl
def rvalueV (s : List UInt8) : Int := satV (valN s 0)
def okD (s : List UInt8) : Bool := decide (s.length ≤ 1000000) && s.all isD
theorem okD_iff {s : List UInt8} : okD s = true ↔ s.length ≤ 1000000 ∧ s.all isD = true := by simp [okD]
theorem rvalueV_le (s : List UInt8) : 0 ≤ rvalueV s ∧ rvalueV s ≤ 1152921504606846976 := by
  unfold rvalueV
  by_cases h : valN s 0 < 72057594037927936
  · rw [satV_lt h]; omega
  · rw [satV_ge h]; omega
noncomputable def rvalue_W : FnW E := fn1 (E := E) .str .int okD rvalueV
def rvalue_id : FuncId := 134
noncomputable def rvalue_O : Oracle E := orac [] [] [] []
noncomputable def rvalue_H : Hint E := Hint.mk [(0, [0, 3, 4])] [] [] [] []
noncomputable def rvalue_C0 (v0 : List UInt8) (v1 v2 : Int) : ASt E := ASt.mk 22 [(0, .d (.str v0)), (3, .d (.int .i64 v1)), (4, .d (.int .i64 v2))] [] 0
noncomputable def rvalue_t (G : Nat → ASt E → Option (List (TV E))) (x0 : List UInt8) : Option (List (TV E)) :=
  G 0 (rvalue_C0 x0 (0 : Int) (0 : Int))
theorem rvalue_e (G : Nat → ASt E → Option (List (TV E))) (x0 : List UInt8) : runE rvalue_O rvalue_H G Tryz.f134 [⟨.str, x0⟩] = rvalue_t G x0 := by kernel_rfl
noncomputable def rvalue_t0 (G : Nat → ASt E → Option (List (TV E))) (v0 : List UInt8) (v1 v2 : Int) : Option (List (TV E)) :=
  bif (decide (v2 < (v0.length : Int))) then (bif (decide ((0 : Int) ≤ v2) && decide (v2 < (v0.length : Int))) then (bif (decide ((72057594037927936 : Int) ≤ (w64 ((w64 ((w64 (v1 * (10 : Int))) + (w64 (((List.getD v0 (Int.toNat v2) 0).toNat : Nat) : Int)))) - (48 : Int))))) then some [⟨.int, (1152921504606846976 : Int)⟩] else G 0 (rvalue_C0 v0 (w64 ((w64 ((w64 (v1 * (10 : Int))) + (w64 (((List.getD v0 (Int.toNat v2) 0).toNat : Nat) : Int)))) - (48 : Int))) (w64 (v2 + (1 : Int))))) else none) else some [⟨.int, v1⟩]
theorem rvalue_l0 (G : Nat → ASt E → Option (List (TV E))) (v0 : List UInt8) (v1 v2 : Int) : runL rvalue_O rvalue_H G Tryz.f134 0 (rvalue_C0 v0 v1 v2) = rvalue_t0 G v0 v1 v2 := by kernel_rfl
theorem rvalue_f : Tryz.prog.funcs[134]? = some Tryz.f134 := by kernel_rfl
theorem rvalue_n : (Tryz.f134.name == "runtime.NumGoroutine") = false := by kernel_rfl
theorem rvalue_b : Tryz.f134.body.isNone = false := by kernel_rfl
theorem rvalue_ex : ∃ fn, Tryz.prog.funcs[134]? = some fn ∧ (fn.name == "runtime.NumGoroutine") = false ∧ fn.body.isNone = false := ⟨Tryz.f134, rvalue_f, rvalue_n, rvalue_b⟩
theorem rvalue_hO : OracleOk E rvalue_O := orac_ok .nil .nil .nil .nil
theorem rvalue_s0 {res : List (TV E)} {v0 : List UInt8} {v1 v2 : Int} (h : rvalue_t0 (Gr E Tryz.f134 res) v0 v1 v2 = some res) : Ev E Tryz.f134 res 0 (rvalue_C0 v0 v1 v2) := Ev.step rvalue_hO mix ((rvalue_l0 _ v0 v1 v2).trans h)
theorem rvalue_ok_of (h : ∀ (x0 : List UInt8), okD x0 = true → rvalue_t (Gr E Tryz.f134 [⟨.int, rvalueV x0⟩]) x0 = some [⟨.int, rvalueV x0⟩]) : FnOk E rvalue_id rvalue_W := fn1_ok rvalue_hO mix rvalue_f rvalue_n rvalue_b (fun x0 hk => (rvalue_e _ x0).trans (h x0 hk))
theorem rvalue_0 (s : List UInt8) (hs : s.length ≤ 1000000) (hd : s.all isD = true) : ∀ (m i : Nat) (n : Nat), s.length - i = m → i ≤ s.length → n < 72057594037927936 → 
    Ev E Tryz.f134 [⟨.int, satV (valN (s.drop i) n)⟩] 0 (rvalue_C0 s n i) := by
  intro m
  induction m with
  | zero =>
    intro i n h1 h2 h3
    refine rvalue_s0 ?_
    simp only [rvalue_t0, dge (show s.length ≤ i by omega), cond_false, List.drop_eq_nil_of_le (show s.length ≤ i by omega)]
    simp only [valN, satV_lt h3]
  | succ m ih2 =>
    intro i n h1 h2 h3
    have hi : i < s.length := by omega
    have e3 : w64 ((i : Int) + 1) = ((i + 1 : Nat) : Int) := by rw [w64_id (by omega) (by omega)]; omega
    refine rvalue_s0 ?_
    simp only [rvalue_t0, dlt hi, d0, gd s _ i hi, e3, Bool.and_self, Bool.true_or, cond_true]
    rw [← List.getElem_cons_drop hi]
    have hc := isD_iff.1 (List.all_eq_true.1 hd _ (List.getElem_mem hi))
    have e4 : w64 (w64 (w64 ((n : Int) * 10) + w64 ((s[i].toNat : Int))) - 48) = ((n * 10 + (s[i].toNat - 48) : Nat) : Int) := by
      rw [w64_id (n := (n : Int) * 10) (by omega) (by omega), w64_id (n := (s[i].toNat : Int)) (by omega) (by omega), w64_id (n := (n : Int) * 10 + _) (by omega) (by omega), w64_id (by omega) (by omega)]
      omega
    rw [e4]
    simp only [valN]
    by_cases hn : 72057594037927936 ≤ n * 10 + (s[i].toNat - 48)
    · have := valN_ge (s.drop (i + 1)) (n * 10 + (s[i].toNat - 48))
      rw [dT (by omega), cond_true, satV_ge (by omega)]
    · rw [dF (by omega), cond_false]
      exact Gr_of (ih2 (i + 1) _ (by omega) (by omega) (by omega))
theorem rvalue_ok : FnOk E rvalue_id rvalue_W := rvalue_ok_of fun s hk => by
  obtain ⟨hs, hd⟩ := okD_iff.1 hk
  have := Gr_of (rvalue_0 s hs hd s.length 0 0 (by omega) (by omega) (by omega))
  rw [List.drop_zero] at this
  exact this
/-- A number from 0 to a bound, and what is wrong. -/
def overP (most : Int) (n : Nat) : Int × Int := bif decide (most < (n : Int)) then (0, 9) else ((n : Int), 0)
theorem overP_lt {most : Int} {n : Nat} (h : most < (n : Int)) : overP most n = (0, 9) := by unfold overP; rw [dT h]; rfl
theorem overP_ge {most : Int} {n : Nat} (h : ¬ most < (n : Int)) : overP most n = ((n : Int), 0) := by unfold overP; rw [dF h]; rfl
def cntP (s : List UInt8) (most : Int) : Int × Int := bif !(wholeB s) then (0, 3) else overP most (valN s 0)
def cntV (s : List UInt8) (most : Int) : Int := (cntP s most).1
def cntE (s : List UInt8) (most : Int) : Int := (cntP s most).2
def okW (s : List UInt8) (most : Int) : Bool := decide (s.length ≤ 1000000) && decide (0 ≤ most) && decide (most ≤ 9223372036854775807)
theorem okW_iff {s : List UInt8} {most : Int} : okW s most = true ↔ (s.length ≤ 1000000 ∧ 0 ≤ most) ∧ most ≤ 9223372036854775807 := by simp [okW]
theorem cnt_bd (s : List UInt8) (most : Int) (h : 0 ≤ most) : 0 ≤ cntV s most ∧ cntV s most ≤ most := by
  unfold cntV cntP
  cases wholeB s with
  | false => exact ⟨Int.le_refl _, h⟩
  | true =>
    simp only [Bool.not_true, cond_false]
    by_cases hv : most < (valN s 0 : Int)
    · rw [overP_lt hv]; exact ⟨Int.le_refl _, h⟩
    · rw [overP_ge hv]; exact ⟨Int.natCast_nonneg _, by simp only; omega⟩
noncomputable def rcount_W : FnW E := fn22 (E := E) .str .int .int .api_Errno okW cntV cntE
def rcount_id : FuncId := 87
noncomputable def rcount_O : Oracle E := orac [(133, rwhole_W)] [] [] []
noncomputable def rcount_H : Hint E := Hint.mk [(0, [0, 1, 6, 7])] [] [] [] []
noncomputable def rcount_C0 (v0 : List UInt8) (v1 v2 v3 : Int) : ASt E := ASt.mk 36 [(0, .d (.str v0)), (1, .d (.int .i64 v1)), (6, .d (.int .u64 v2)), (7, .d (.int .i64 v3))] [] 0
noncomputable def rcount_t (G : Nat → ASt E → Option (List (TV E))) (x0 : List UInt8) (x1 : Int) : Option (List (TV E)) :=
  bif (decide (x1 < (0 : Int))) then some [⟨.int, (0 : Int)⟩, ⟨.api_Errno, (2 : Int)⟩] else (bif (okL1 x0) then (bif (!(wholeB x0)) then some [⟨.int, (0 : Int)⟩, ⟨.api_Errno, (3 : Int)⟩] else (bif (decide ((19 : Int) < (x0.length : Int))) then some [⟨.int, (0 : Int)⟩, ⟨.api_Errno, (9 : Int)⟩] else G 0 (rcount_C0 x0 x1 (0 : Int) (0 : Int)))) else none)
theorem rcount_e (G : Nat → ASt E → Option (List (TV E))) (x0 : List UInt8) (x1 : Int) : runE rcount_O rcount_H G Tryz.f87 [⟨.str, x0⟩, ⟨.int, x1⟩] = rcount_t G x0 x1 := by kernel_rfl
noncomputable def rcount_t0 (G : Nat → ASt E → Option (List (TV E))) (v0 : List UInt8) (v1 v2 v3 : Int) : Option (List (TV E)) :=
  bif (decide (v3 < (v0.length : Int))) then (bif (decide ((0 : Int) ≤ v3) && decide (v3 < (v0.length : Int))) then G 0 (rcount_C0 v0 v1 (IntKind.wrap .u64 ((IntKind.wrap .u64 ((IntKind.wrap .u64 (v2 * (10 : Int))) + (IntKind.wrap .u64 (((List.getD v0 (Int.toNat v3) 0).toNat : Nat) : Int)))) - (48 : Int))) (w64 (v3 + (1 : Int)))) else none) else (bif (decide ((IntKind.wrap .u64 v1) < v2)) then some [⟨.int, (0 : Int)⟩, ⟨.api_Errno, (9 : Int)⟩] else some [⟨.int, (w64 v2)⟩, ⟨.api_Errno, (0 : Int)⟩])
theorem rcount_l0 (G : Nat → ASt E → Option (List (TV E))) (v0 : List UInt8) (v1 v2 v3 : Int) : runL rcount_O rcount_H G Tryz.f87 0 (rcount_C0 v0 v1 v2 v3) = rcount_t0 G v0 v1 v2 v3 := by kernel_rfl
theorem rcount_f : Tryz.prog.funcs[87]? = some Tryz.f87 := by kernel_rfl
theorem rcount_n : (Tryz.f87.name == "runtime.NumGoroutine") = false := by kernel_rfl
theorem rcount_b : Tryz.f87.body.isNone = false := by kernel_rfl
theorem rcount_ex : ∃ fn, Tryz.prog.funcs[87]? = some fn ∧ (fn.name == "runtime.NumGoroutine") = false ∧ fn.body.isNone = false := ⟨Tryz.f87, rcount_f, rcount_n, rcount_b⟩
theorem rcount_hO : OracleOk E rcount_O := orac_ok (.cons rwhole_ok .nil) .nil .nil .nil
theorem rcount_s0 {res : List (TV E)} {v0 : List UInt8} {v1 v2 v3 : Int} (h : rcount_t0 (Gr E Tryz.f87 res) v0 v1 v2 v3 = some res) : Ev E Tryz.f87 res 0 (rcount_C0 v0 v1 v2 v3) := Ev.step rcount_hO mix ((rcount_l0 _ v0 v1 v2 v3).trans h)
theorem rcount_ok_of (h : ∀ (x0 : List UInt8) (x1 : Int), okW x0 x1 = true → rcount_t (Gr E Tryz.f87 [⟨.int, cntV x0 x1⟩, ⟨.api_Errno, cntE x0 x1⟩]) x0 x1 = some [⟨.int, cntV x0 x1⟩, ⟨.api_Errno, cntE x0 x1⟩]) : FnOk E rcount_id rcount_W := fn22_ok rcount_hO mix rcount_f rcount_n rcount_b (fun x0 x1 hk => (rcount_e _ x0 x1).trans (h x0 x1 hk))
theorem pow_le19 {k : Nat} (h : k ≤ 19) : 10 ^ k ≤ 10000000000000000000 := by
  have := Nat.pow_le_pow_right (show 0 < 10 by omega) h
  have e : (10 : Nat) ^ 19 = 10000000000000000000 := by decide
  omega
theorem rcount_0 (s : List UInt8) (most : Int) (hm : 0 ≤ most ∧ most ≤ 9223372036854775807) (hs : s.length ≤ 19) (hd : s.all isD = true) : ∀ (m i : Nat) (n : Nat), s.length - i = m → i ≤ s.length → (n + 1) * 10 ^ (s.length - i) ≤ 10000000000000000000 → 
    Ev E Tryz.f87 [⟨.int, (overP most (valN (s.drop i) n)).1⟩, ⟨.api_Errno, (overP most (valN (s.drop i) n)).2⟩] 0 (rcount_C0 s most n i) := by
  intro m
  induction m with
  | zero =>
    intro i n h1 h2 h3
    refine rcount_s0 ?_
    simp only [rcount_t0, dge (show s.length ≤ i by omega), cond_false, List.drop_eq_nil_of_le (show s.length ≤ i by omega)]
    have e0 : s.length - i = 0 := by omega
    rw [e0] at h3
    rw [u64_id (by omega) (by omega)]
    simp only [valN]
    by_cases h : most < (n : Int)
    · rw [dT h, overP_lt h]; rfl
    · rw [dF h, overP_ge h, w64_id (by omega) (by omega)]; rfl
  | succ m ih2 =>
    intro i n h1 h2 h3
    have hi : i < s.length := by omega
    have e3 : w64 ((i : Int) + 1) = ((i + 1 : Nat) : Int) := by rw [w64_id (by omega) (by omega)]; omega
    refine rcount_s0 ?_
    simp only [rcount_t0, dlt hi, d0, gd s _ i hi, e3, Bool.and_self, Bool.true_or, cond_true]
    rw [← List.getElem_cons_drop hi]
    have hc := isD_iff.1 (List.all_eq_true.1 hd _ (List.getElem_mem hi))
    have ep : s.length - i = (s.length - (i + 1)) + 1 := by omega
    have hpow : 1 ≤ 10 ^ (s.length - (i + 1)) := Nat.one_le_pow _ _ (by omega)
    rw [ep, Nat.pow_succ, Nat.mul_comm (10 ^ _) 10, ← Nat.mul_assoc] at h3
    have h5 : (n * 10 + (s[i].toNat - 48) + 1) * 10 ^ (s.length - (i + 1)) ≤ (n + 1) * 10 * 10 ^ (s.length - (i + 1)) := Nat.mul_le_mul_right _ (by omega)
    have h6 : (n + 1) * 10 ≤ 10000000000000000000 := Nat.le_trans (Nat.le_mul_of_pos_right _ hpow) h3
    have e4 : IntKind.wrap .u64 (IntKind.wrap .u64 (IntKind.wrap .u64 ((n : Int) * 10) + IntKind.wrap .u64 ((s[i].toNat : Int))) - 48) = ((n * 10 + (s[i].toNat - 48) : Nat) : Int) := by
      rw [u64_id (n := (n : Int) * 10) (by omega) (by omega), u64_id (n := (s[i].toNat : Int)) (by omega) (by omega), u64_id (n := (n : Int) * 10 + _) (by omega) (by omega), u64_id (by omega) (by omega)]
      omega
    rw [e4]
    simp only [valN]
    exact Gr_of (ih2 (i + 1) _ (by omega) (by omega) (by omega))
theorem valN_big : ∀ (s : List UInt8) (n : Nat), n * 10 ^ s.length ≤ valN s n
  | [], n => by simp [valN]
  | c :: t, n => by
    have := valN_big t (n * 10 + (c.toNat - 48))
    unfold valN
    refine Nat.le_trans ?_ this
    rw [List.length_cons, Nat.pow_succ, Nat.mul_comm (10 ^ t.length) 10, ← Nat.mul_assoc]
    exact Nat.mul_le_mul_right _ (by omega)
theorem whole_big {s : List UInt8} (h : wholeB s = true) (hl : 19 < s.length) : 10000000000000000000 ≤ valN s 0 := by
  match s, h, hl with
  | [], _, hl => simp at hl
  | [_], _, hl => simp at hl
  | c :: d :: t, h, hl =>
    simp only [wholeB, lead0, Bool.and_eq_true, List.all_cons, Bool.not_eq_true'] at h
    have hc := isD_iff.1 h.2.1
    have h48 : c.toNat ≠ 48 := fun e => by
      have : c = 48 := UInt8.toNat_inj.1 e
      subst this; exact absurd h.1 (by decide)
    have h1 := valN_big (d :: t) (0 * 10 + (c.toNat - 48))
    have h2 : 10 ^ 19 ≤ 10 ^ (d :: t).length := Nat.pow_le_pow_right (by omega) (by simp only [List.length_cons] at hl ⊢; omega)
    have e : (10 : Nat) ^ 19 = 10000000000000000000 := by decide
    have h3 : 1 * 10 ^ (d :: t).length ≤ (0 * 10 + (c.toNat - 48)) * 10 ^ (d :: t).length := Nat.mul_le_mul_right _ (by omega)
    show 10000000000000000000 ≤ valN (d :: t) (0 * 10 + (c.toNat - 48))
    omega
theorem rcount_ok : FnOk E rcount_id rcount_W := rcount_ok_of fun s most hk => by
  obtain ⟨⟨hs, h0⟩, h1⟩ := okW_iff.1 hk
  have ho : okL1 s = true := okL1_iff.2 hs
  simp only [rcount_t, dF (show ¬ most < 0 by omega), cond_false, ho, cond_true, cntV, cntE, cntP]
  cases hw : wholeB s with
  | false => rfl
  | true =>
    simp only [Bool.not_true, cond_false]
    by_cases hl : (19 : Int) < (s.length : Int)
    · have := whole_big hw (by omega)
      rw [dT hl, overP_lt (show most < (valN s 0 : Int) by omega)]; rfl
    · rw [dF hl, cond_false]
      have hd : s.all isD = true := by simp only [wholeB, Bool.and_eq_true] at hw; exact hw.2
      have hp := pow_le19 (show s.length ≤ 19 by omega)
      have := Gr_of (rcount_0 s most ⟨h0, h1⟩ (by omega) hd s.length 0 0 (by omega) (by omega) (by rw [Nat.zero_add, Nat.one_mul, Nat.sub_zero]; exact hp))
      rw [List.drop_zero] at this
      exact this
/-! ### The sort and the compaction of texts -/
theorem enc_str {w : World} {ro : Nat → Nat → Prop} {u : Value} {x : List UInt8} (h : DRep E w ro u (.str x)) : u = encStr x := by cases h; rfl
theorem row_strs {w : World} {ro : Nat → Nat → Prop} {xs : List Value} {l : List (List UInt8)} (hl : xs.length = l.length) (h : RowD E w ro .str xs l) : xs = l.map encStr := by
  apply List.ext_getElem?
  intro i
  by_cases hi : i < l.length
  · obtain ⟨u, hu, hd⟩ := h i l[i] 0 (.str l[i]) (List.getElem?_eq_getElem hi) rfl
    have hu : xs[i * 1 + 0]? = some u := hu
    rw [Nat.mul_one, Nat.add_zero] at hu
    rw [hu, enc_str hd]
    simp [hi]
  · rw [List.getElem?_eq_none (by omega), List.getElem?_eq_none (by simp; omega)]
theorem strs_row {w : World} {ro : Nat → Nat → Prop} (l : List (List UInt8)) : RowD E w ro .str (l.map encStr) l := by
  intro i x j c hx hc
  have hc : ([.str x] : List (DVal E.Den))[j]? = some c := hc
  cases j with
  | zero =>
    simp at hc
    subst hc
    refine ⟨encStr x, ?_, .str x⟩
    show (l.map encStr)[i * 1 + 0]? = some (encStr x)
    rw [Nat.mul_one, Nat.add_zero, List.getElem?_map, show l[i]? = some x from hx]
    rfl
  | succ j => simp at hc
def okSort (l : List (List UInt8)) : Bool := decide (l.length ≤ 1000000)
noncomputable def sort_M : FnM E := mut0 (E := E) .str false okSort Pl.msort
def sort_mid : FuncId := 157
theorem sort_mex : ∃ fn, Tryz.prog.funcs[sort_mid]? = some fn ∧ (fn.name == "runtime.NumGoroutine") = false ∧ fn.body.isNone = false := ⟨Tryz.f157, by kernel_rfl, by kernel_rfl, by kernel_rfl⟩
noncomputable def compact_M : FnM E := mut0 (E := E) .str true okSort Lib.compact
def compact_mid : FuncId := 158
theorem compact_mex : ∃ fn, Tryz.prog.funcs[compact_mid]? = some fn ∧ (fn.name == "runtime.NumGoroutine") = false ∧ fn.body.isNone = false := ⟨Tryz.f158, by kernel_rfl, by kernel_rfl, by kernel_rfl⟩
theorem msort_nil : Pl.msort [] = [] := by simp [Pl.msort]
theorem sort_mok : MutOk E sort_mid sort_M := by
  refine ⟨sort_mex, fun t l rest back l' h => ?_⟩
  obtain ⟨l, e1, hr, hb, hok, e2⟩ := mut0_inv h
  cases e1
  cases e2
  subst hr; subst hb
  have hok : okSort l = true := hok
  simp only [okSort, decide_eq_true_eq] at hok
  intro w ro gh xs vals hn hge hgs hown hrow hnro hargs hrolt
  match vals, hargs with
  | [], _ =>
  have hlen : (Pl.msort l).length = l.length := Pl.msort_len l
  rcases hown with ⟨hown, hblk⟩ | ⟨h0, hxs, hblk, ad, hv⟩
  · have hx1 : xs.length = l.length := by rw [hown.1, hgs, hn]; show l.length * 1 = _; omega
    have hxs := row_strs hx1 hrow
    rcases hown.2 with ⟨hnil, hn0⟩ | ⟨g, cap, cur, hgv, hbase, hb, h1, h2, h3, h4⟩
    · have hl0 : l = [] := List.eq_nil_of_length_eq_zero (by omega)
      subst hl0
      rw [hnil, msort_nil]
      refine (Tryz.slices_Sort_string_none none 0 w).mono fun e w' he => ?_
      obtain ⟨rfl, rfl⟩ := he
      refine ⟨_, gh, [], rfl, ⟨rfl, rfl, rfl, Nat.le_refl _, fun _ _ _ => rfl⟩, hn, hge, hgs, .inl ⟨?_, hblk⟩, strs_row [], fun g hg => .inl hg, (fun h => by cases h), fun _ => rfl⟩
      rw [hnil, hn0]
      exact World.ownsRow_nil _ 0 _ _
    · rw [hgv, hn]
      rw [hge] at hb
      have hsz : gh.sz = 1 := hgs
      rw [hsz, Nat.mul_one] at h3
      rw [hsz, Nat.mul_one, hn, hxs] at h4
      refine (Tryz.slices_Sort_string g 0 cap l w (holds_of_block hb h4) (Array.getElem?_eq_some_iff.1 hb).1 (by omega)).mono fun e w' he => ?_
      obtain ⟨rfl, n, os, rfl⟩ := he
      have hg2 : gh.blk = some g := by rw [hblk, hgv]; rfl
      refine ⟨_, gh, (Pl.msort l).map encStr, rfl, by rw [hg2]; exact grownBy_sorted _, by rw [hlen]; exact hn, hge, hgs, .inl ⟨?_, hblk⟩, strs_row _, fun g hg => .inl hg, (fun h => by cases h), fun _ => rfl⟩
      rw [hgv, hn, hge, hsz]
      exact ownsRow_sorted (ts := Pl.msort l) hlen (Nat.zero_le _) hb (by omega) h2 (by rw [h3, Nat.mul_one])
  · have hl0 : l = [] := List.eq_nil_of_length_eq_zero (by omega)
    subst hl0
    rw [hv, msort_nil]
    refine (Tryz.slices_Sort_string_none ad 0 w).mono fun e w' he => ?_
    obtain ⟨rfl, rfl⟩ := he
    exact ⟨_, gh, [], rfl, ⟨rfl, rfl, rfl, Nat.le_refl _, fun _ _ _ => rfl⟩, hn, hge, hgs, .inr ⟨h0, rfl, hblk, ad, hv⟩, strs_row [], fun g hg => .inl hg, (fun h => by cases h), fun _ => rfl⟩
theorem ownsRow_prefix {w : World} {base g cap n m : Nat} {e : TypeId} {xs : List Value} (h : w.ownsRow base e 1 (.slice (some ⟨g, 0, none⟩) n cap) n xs) (hm : m ≤ n) : w.ownsRow base e 1 (.slice (some ⟨g, 0, none⟩) m cap) m (xs.take m) := by
  obtain ⟨h1, h2⟩ := h
  refine ⟨by rw [List.length_take]; omega, .inr ?_⟩
  rcases h2 with ⟨h2, _⟩ | ⟨g', cap', cur, h2, h3, h4, h5, h6, h7, h8⟩
  · cases h2
  · cases h2
    exact ⟨g, cap, cur, rfl, h3, h4, by omega, h6, h7, by rw [← h8, List.take_take, Nat.mul_one, Nat.mul_one, Nat.min_eq_left hm]⟩
theorem compact_mok : MutOk E compact_mid compact_M := by
  refine ⟨compact_mex, fun t l rest back l' h => ?_⟩
  obtain ⟨l, e1, hr, hb, hok, e2⟩ := mut0_inv h
  cases e1
  cases e2
  subst hr; subst hb
  have hok : okSort l = true := hok
  simp only [okSort, decide_eq_true_eq] at hok
  intro w ro gh xs vals hn hge hgs hown hrow hnro hargs hrolt
  match vals, hargs with
  | [], _ =>
  have hlen := Pl.compact_len l
  rcases hown with ⟨hown, hblk⟩ | ⟨h0, hxs, hblk, ad, hv⟩
  · have hx1 : xs.length = l.length := by rw [hown.1, hgs, hn]; show l.length * 1 = _; omega
    have hxs := row_strs hx1 hrow
    rcases hown.2 with ⟨hnil, hn0⟩ | ⟨g, cap, cur, hgv, hbase, hb, h1, h2, h3, h4⟩
    · have hl0 : l = [] := List.eq_nil_of_length_eq_zero (by omega)
      subst hl0
      rw [hnil]
      refine (Tryz.slices_Compact_string_empty none 0 w).mono fun e w' he => ?_
      obtain ⟨rfl, rfl⟩ := he
      refine ⟨_, gh, [], rfl, ⟨rfl, rfl, rfl, Nat.le_refl _, fun _ _ _ => rfl⟩, hn, hge, hgs, .inl ⟨?_, hblk⟩, strs_row [], fun g hg => .inl hg, (fun _ => hnil.symm), (fun h => by cases h)⟩
      rw [hnil, hn0]
      exact World.ownsRow_nil _ 0 _ _
    · rw [hgv, hn]
      rw [hge] at hb
      have hsz : gh.sz = 1 := hgs
      rw [hsz, Nat.mul_one] at h3
      rw [hsz, Nat.mul_one, hn, hxs] at h4
      have hcap : l.length ≤ cap := by omega
      refine (Tryz.slices_Compact_string g 0 cap l w (holds_of_block hb h4) (by omega) hcap).mono fun e w' he => ?_
      obtain ⟨rfl, q, rfl⟩ := he
      have hg2 : gh.blk = some g := by rw [hblk, hgv]; rfl
      have hts : (Lib.compact l ++ List.replicate (l.length - (Lib.compact l).length) []).length = l.length := by simp; omega
      have hown' := ownsRow_sorted (n := q) (os := #[]) (ts := Lib.compact l ++ List.replicate (l.length - (Lib.compact l).length) []) hts (Nat.zero_le g) hb hcap h2 (by rw [h3, Nat.mul_one])
      rw [Sort.grow_empty] at hown'
      have hgb := grownBy_sorted (w := w) (g := g) (n := q) (os := #[]) (Lib.compact l ++ List.replicate (l.length - (Lib.compact l).length) []).toArray
      rw [Sort.grow_empty] at hgb
      have hp := ownsRow_prefix hown' hlen
      rw [List.map_append, List.take_left' (by simp)] at hp
      exact ⟨_, ⟨.slice (some ⟨g, 0, none⟩) (Lib.compact l).length cap, (Lib.compact l).length, E.tid .str, E.size .str, some g⟩, (Lib.compact l).map encStr, rfl, by rw [hg2]; exact hgb, rfl, rfl, rfl, .inl ⟨hp, rfl⟩, strs_row _,
        (fun g' hg' => .inl (by rw [hg2]; exact hg')), (fun _ => rfl), (fun h => by cases h)⟩
  · have hl0 : l = [] := List.eq_nil_of_length_eq_zero (by omega)
    subst hl0
    rw [hv]
    refine (Tryz.slices_Compact_string_empty ad 0 w).mono fun e w' he => ?_
    obtain ⟨rfl, rfl⟩ := he
    exact ⟨_, gh, [], rfl, ⟨rfl, rfl, rfl, Nat.le_refl _, fun _ _ _ => rfl⟩, hn, hge, hgs, .inr ⟨h0, rfl, hblk, ad, hv⟩, strs_row [], fun g hg => .inl hg, (fun _ => hv.symm), (fun h => by cases h)⟩
/-! ### slices.Grow of nil, at texts -/
/-! ### slices.Index, Equal, Concat at texts -/
def ln6 {α : Type} (l : List α) : Bool := decide (l.length ≤ 1000000)
theorem ln6_iff {α : Type} {l : List α} : ln6 l = true ↔ l.length ≤ 1000000 := by simp [ln6]
def idxF (s : List UInt8) : Nat → List (List UInt8) → Int
  | _, [] => -1
  | i, a :: t => if s = a then i else idxF s (i + 1) t
def index (l : List (List UInt8)) (s : List UInt8) : Int := idxF s 0 l
noncomputable def index_W : FnW E := fn2 (E := E) .l_str .str .int (fun l _ => ln6 l) index
def index_id : FuncId := 184
noncomputable def index_O : Oracle E := orac [] [] [] []
noncomputable def index_H : Hint E := Hint.mk [(0, [0, 1, 7, 8])] [] [] [] []
noncomputable def index_C0 (v0 : List (List UInt8)) (v1 : List UInt8) (v2 v3 : Int) : ASt E := ASt.mk 19 [(0, .d (.slice .str v0)), (1, .d (.str v1)), (7, .d (.int .i64 v2)), (8, .d (.int .i64 v3))] [] 0
noncomputable def index_t (G : Nat → ASt E → Option (List (TV E))) (x0 : List (List UInt8)) (x1 : List UInt8) : Option (List (TV E)) :=
  G 0 (index_C0 x0 x1 (x0.length : Int) (0 : Int))
theorem index_e (G : Nat → ASt E → Option (List (TV E))) (x0 : List (List UInt8)) (x1 : List UInt8) : runE index_O index_H G Tryz.f184 [⟨.l_str, x0⟩, ⟨.str, x1⟩] = index_t G x0 x1 := by kernel_rfl
noncomputable def index_t0 (G : Nat → ASt E → Option (List (TV E))) (v0 : List (List UInt8)) (v1 : List UInt8) (v2 v3 : Int) : Option (List (TV E)) :=
  bif (decide (v3 < v2)) then (bif (decide ((0 : Int) ≤ v3) && decide (v3 < (v0.length : Int))) then (bif (v1 == (List.getD v0 (Int.toNat v3) (dflt .str))) then some [⟨.int, v3⟩] else G 0 (index_C0 v0 v1 v2 (w64 (v3 + (1 : Int))))) else none) else some [⟨.int, (-1 : Int)⟩]
theorem index_l0 (G : Nat → ASt E → Option (List (TV E))) (v0 : List (List UInt8)) (v1 : List UInt8) (v2 v3 : Int) : runL index_O index_H G Tryz.f184 0 (index_C0 v0 v1 v2 v3) = index_t0 G v0 v1 v2 v3 := by kernel_rfl
theorem index_f : Tryz.prog.funcs[184]? = some Tryz.f184 := by kernel_rfl
theorem index_n : (Tryz.f184.name == "runtime.NumGoroutine") = false := by kernel_rfl
theorem index_b : Tryz.f184.body.isNone = false := by kernel_rfl
theorem index_ex : ∃ fn, Tryz.prog.funcs[184]? = some fn ∧ (fn.name == "runtime.NumGoroutine") = false ∧ fn.body.isNone = false := ⟨Tryz.f184, index_f, index_n, index_b⟩
theorem index_hO : OracleOk E index_O := orac_ok .nil .nil .nil .nil
theorem index_s0 {res : List (TV E)} {v0 : List (List UInt8)} {v1 : List UInt8} {v2 v3 : Int} (h : index_t0 (Gr E Tryz.f184 res) v0 v1 v2 v3 = some res) : Ev E Tryz.f184 res 0 (index_C0 v0 v1 v2 v3) := Ev.step index_hO mix ((index_l0 _ v0 v1 v2 v3).trans h)
theorem index_ok_of (h : ∀ (x0 : List (List UInt8)) (x1 : List UInt8), (fun l _ => ln6 l) x0 x1 = true → index_t (Gr E Tryz.f184 [⟨.int, index x0 x1⟩]) x0 x1 = some [⟨.int, index x0 x1⟩]) : FnOk E index_id index_W := fn2_ok index_hO mix index_f index_n index_b (fun x0 x1 hk => (index_e _ x0 x1).trans (h x0 x1 hk))
theorem index_loop (l : List (List UInt8)) (s : List UInt8) (hl : l.length ≤ 1000000) : ∀ (m i : Nat), l.length - i = m → i ≤ l.length → Ev E Tryz.f184 [⟨.int, idxF s i (l.drop i)⟩] 0 (index_C0 l s l.length i) := by
  intro m
  induction m with
  | zero =>
    intro i h1 h2
    refine index_s0 ?_
    simp only [index_t0, dge (show l.length ≤ i by omega), cond_false, List.drop_eq_nil_of_le (show l.length ≤ i by omega)]
    rfl
  | succ m ih =>
    intro i h1 h2
    have hi : i < l.length := by omega
    refine index_s0 ?_
    simp only [index_t0, dlt hi, d0, gd l _ i hi, Bool.and_self, cond_true]
    rw [← List.getElem_cons_drop hi]
    unfold idxF
    by_cases hs : s = l[i]
    · rw [if_pos hs, show (s == l[i]) = true from by simpa using hs]; rfl
    · rw [if_neg hs, show (s == l[i]) = false from by simpa using hs, cond_false, w64_id (by omega) (by omega)]
      exact Gr_of (ih (i + 1) (by omega) (by omega))
theorem index_ok : FnOk E index_id index_W := index_ok_of fun l s hk => by
  have := index_loop l s (ln6_iff.1 hk) l.length 0 (by omega) (by omega)
  rw [List.drop_zero] at this
  exact Gr_of this
def equal (a b : List (List UInt8)) : Bool := a == b
def lens (l : List (List (List UInt8))) : Nat := (l.map List.length).sum
def okCat (l : List (List (List UInt8))) : Bool := decide (l.length ≤ 1000000) && decide (lens l ≤ 1000000)
/-! ### Package name: lists of texts -/
noncomputable def nsorted_W : FnW E := fn1 (E := E) .l_str .l_str ln6 Pl.sortD
def nsorted_id : FuncId := 113
noncomputable def nsorted_O : Oracle E := orac [] [] [(158, compact_M), (157, sort_M)] []
noncomputable def nsorted_H : Hint E := Hint.mk [] [] [] [] []
noncomputable def nsorted_t (_G : Nat → ASt E → Option (List (TV E))) (x0 : List (List UInt8)) : Option (List (TV E)) :=
  bif (decide ((([] : List (List UInt8)).length + x0.length) * 16 ≤ maxBytes)) then (bif (okSort (([] : List (List UInt8)) ++ x0)) then (bif (okSort (Pl.msort (([] : List (List UInt8)) ++ x0))) then some [⟨.l_str, (Lib.compact (Pl.msort (([] : List (List UInt8)) ++ x0)))⟩] else none) else none) else none
theorem nsorted_e (G : Nat → ASt E → Option (List (TV E))) (x0 : List (List UInt8)) : runE nsorted_O nsorted_H G Tryz.f113 [⟨.l_str, x0⟩] = nsorted_t G x0 := by kernel_rfl
theorem nsorted_f : Tryz.prog.funcs[113]? = some Tryz.f113 := by kernel_rfl
theorem nsorted_n : (Tryz.f113.name == "runtime.NumGoroutine") = false := by kernel_rfl
theorem nsorted_b : Tryz.f113.body.isNone = false := by kernel_rfl
theorem nsorted_ex : ∃ fn, Tryz.prog.funcs[113]? = some fn ∧ (fn.name == "runtime.NumGoroutine") = false ∧ fn.body.isNone = false := ⟨Tryz.f113, nsorted_f, nsorted_n, nsorted_b⟩
theorem nsorted_hO : OracleOk E nsorted_O := orac_ok .nil .nil (.cons compact_mok (.cons sort_mok .nil)) .nil
theorem nsorted_ok_of (h : ∀ (x0 : List (List UInt8)), ln6 x0 = true → nsorted_t (Gr E Tryz.f113 [⟨.l_str, Pl.sortD x0⟩]) x0 = some [⟨.l_str, Pl.sortD x0⟩]) : FnOk E nsorted_id nsorted_W := fn1_ok nsorted_hO mix nsorted_f nsorted_n nsorted_b (fun x0 hk => (nsorted_e _ x0).trans (h x0 hk))
theorem nsorted_ok : FnOk E nsorted_id nsorted_W := nsorted_ok_of fun l hk => by
  have hl := ln6_iff.1 hk
  have h1 : okSort (([] : List (List UInt8)) ++ l) = true := by simpa [okSort] using hl
  have h2 : okSort (Pl.msort (([] : List (List UInt8)) ++ l)) = true := by simp only [okSort, decide_eq_true_eq, Pl.msort_len]; simpa using hl
  simp only [nsorted_t, h1, h2, cond_true]
  rw [dT (show (([] : List (List UInt8)).length + l.length) * 16 ≤ maxBytes by rw [mb, List.length_nil]; omega)]
  rfl
def both (a b : List (List UInt8)) : List (List UInt8) := Pl.sortD (a ++ b)
def ln5 (a b : List (List UInt8)) : Bool := decide (a.length + b.length ≤ 100000)
noncomputable def nat_W : FnW E := fn2 (E := E) .l_str .str .int (fun l _ => ln6 l) index
def nat_id : FuncId := 156
noncomputable def nat_O : Oracle E := orac [(184, index_W)] [] [] []
noncomputable def nat_H : Hint E := Hint.mk [] [] [] [] []
noncomputable def nat_t (_G : Nat → ASt E → Option (List (TV E))) (x0 : List (List UInt8)) (x1 : List UInt8) : Option (List (TV E)) :=
  bif ((fun l _ => ln6 l) x0 x1) then some [⟨.int, (index x0 x1)⟩] else none
theorem nat_e (G : Nat → ASt E → Option (List (TV E))) (x0 : List (List UInt8)) (x1 : List UInt8) : runE nat_O nat_H G Tryz.f156 [⟨.l_str, x0⟩, ⟨.str, x1⟩] = nat_t G x0 x1 := by kernel_rfl
theorem nat_f : Tryz.prog.funcs[156]? = some Tryz.f156 := by kernel_rfl
theorem nat_n : (Tryz.f156.name == "runtime.NumGoroutine") = false := by kernel_rfl
theorem nat_b : Tryz.f156.body.isNone = false := by kernel_rfl
theorem nat_ex : ∃ fn, Tryz.prog.funcs[156]? = some fn ∧ (fn.name == "runtime.NumGoroutine") = false ∧ fn.body.isNone = false := ⟨Tryz.f156, nat_f, nat_n, nat_b⟩
theorem nat_hO : OracleOk E nat_O := orac_ok (.cons index_ok .nil) .nil .nil .nil
theorem nat_ok_of (h : ∀ (x0 : List (List UInt8)) (x1 : List UInt8), (fun l _ => ln6 l) x0 x1 = true → nat_t (Gr E Tryz.f156 [⟨.int, index x0 x1⟩]) x0 x1 = some [⟨.int, index x0 x1⟩]) : FnOk E nat_id nat_W := fn2_ok nat_hO mix nat_f nat_n nat_b (fun x0 x1 hk => (nat_e _ x0 x1).trans (h x0 x1 hk))
theorem nat_ok : FnOk E nat_id nat_W := nat_ok_of fun l s hk => by simp only [nat_t, hk, cond_true]
end Go.Proofs.YtfoflgciceckoaaGreatDoor.Rf