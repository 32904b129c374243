/- The Mirror, part B: the interpreter's state and what one operation does (definitions; the relation to the model's world). -/
import Derived.Test.YtfoflgciceckoaaGreatDoorMirA
import Derived.Laws.Entries
namespace Go.Proofs.YtfoflgciceckoaaGreatDoor.Mir
open Go Go.RowKit

section
variable {P : Program} (E : Env P)

abbrev AV := AVal E.Den

inductive AObj where
  | dead
  | box (cs : List (AV E))
  | tail (live : Bool)
  | row (t : E.Ty) (l : List (E.Den t))

structure ASt where
  n : Nat
  tmps : List (Nat × AV E)
  objs : List (Nat × AObj E)
  next : Nat

structure Res where
  ok : Bool
  v : AV E
  upd : Option (Nat × AObj E)
  new : Option (AObj E)
end

section
variable {P : Program} {E : Env P}

def AObj.live : AObj E → Bool
  | .dead => false
  | .box _ => true
  | .tail l => l
  | .row _ _ => true

def Res.pure (v : AV E) : Res E := ⟨true, v, none, none⟩
def Res.test (ok : Bool) (v : AV E) : Res E := ⟨ok, v, none, none⟩

def constS (v : Value) : AV E := match v with
  | .bool b => .d (.bool b)
  | .int k n => .d (.int k n)
  | .string s => .d (.str s.data.toList)
  | .float .f64 b => (match F64.whole b with | some n => .d (.flt n) | none => .d (.raw v))
  | .complex .f64 x y => (match F64.whole x, F64.whole y with | some a, some b => .d (.cpx a b) | _, _ => .d (.raw v))
  | .agg _ => .any
  | .tuple _ => .any
  | v => .d (.raw v)
def constA (v : Value) : AV E := match v with
  | .agg cs => .agg (cs.toList.map constS)
  | v => constS v

def hasAsm : List (Nat × Bool) → Nat → Bool → Bool
  | [], _, _ => false
  | (i, b) :: r, j, w => (Nat.beq i j && (b == w)) || hasAsm r j w

def slotA (asm : List (Nat × Bool)) : Option (AV E) → AV E
  | some (.cond j w u) => if hasAsm asm j w then u else .any
  | some v => v
  | none => .any

def getA (tm : List (Nat × AV E)) (asm : List (Nat × Bool)) : Operand → AV E
  | .tmp t => slotA asm (look tm t)
  | .const v => constA v
  | .func f => .d (.raw (.func (.func f) #[] #[]))
  | .global _ => .any

def cellOk : AV E → Bool
  | .d _ => true
  | .grow _ _ _ => true
  | .ptr _ _ => true
  | .pelt _ => true
  | .row _ _ _ => true
  | .elt _ _ _ => true
  | _ => false

def allOk : List (AV E) → Bool
  | [] => true
  | c :: r => cellOk c && allOk r

def cellsA : AV E → Option (List (AV E))
  | .st t x => some ((E.cells t x).map .d)
  | .agg cs => if allOk cs then some cs else none
  | v => if cellOk v then some [v] else none

def toD : AV E → Option (DVal E.Den)
  | .d c => some c
  | .grow t l _ => some (.slice t l)
  | _ => none
def toDs : List (AV E) → Option (List (DVal E.Den))
  | [] => some []
  | c :: r => match toD c with
    | some x => match toDs r with
      | some xs => some (x :: xs)
      | none => none
    | none => none

def castD (t t' : E.Ty) (x : E.Den t) : Option (E.Den t') := match E.dec t t' with
  | .isTrue h => some (h ▸ x)
  | .isFalse _ => none

def foldA (t : E.Ty) : AV E → Option (E.Den t)
  | .st t' x => match castD t' t x with
    | some y => some y
    | none => if E.agg t then E.fold t (E.cells t' x) else none
  | .agg cs => if E.agg t then (match toDs cs with | some ds => E.fold t ds | none => none) else none
  | v => if E.agg t then none else (match toD v with | some c => E.fold t [c] | none => none)

def expandA (t : E.Ty) (x : E.Den t) : AV E := if E.agg t then .st t x else match E.cells t x with
  | [c] => .d c
  | _ => .any

def isNil : AV E → Bool
  | .d (.raw (.slice none 0 0)) => true
  | _ => false
def anyNil : List (AV E) → Bool
  | [] => false
  | c :: r => isNil c || anyNil r
def nilIn : AV E → Bool
  | .agg cs => anyNil cs
  | _ => false

/-- A value of type number T in its typed form, where it has one (a nil slice inside stays a nil slice). -/
def packA (T : TypeId) (v : AV E) : AV E := bif nilIn v then v else (match E.code T with
  | some t => match foldA t v with
    | some x => expandA t x
    | none => v
  | none => v)

def sizeT (P : Program) (T : TypeId) : Option Nat := match P.info? T, P.underlying T with | some i, some _ => some i.size | _, _ => none

def takeA (T : TypeId) (cs : List (AV E)) : Option (AV E) := match sizeT P T with
  | some n => if isAggT P T then (if n ≤ cs.length then some (packA T (.agg (cs.take n))) else none) else cs[0]?
  | none => none

def evLoad (objs : List (Nat × AObj E)) (T : TypeId) (a : AV E) : Option (AV E) := match a with
  | .ptr id off => match look objs id with
    | some (.box cs) => takeA T (cs.drop off)
    | _ => none
  | .pelt cs => takeA T (cs.map .d)
  | .elt id i off => match look objs id with
    | some (.row t l) => takeA T (((E.cells t (l.getD i (E.dflt t))).drop off).map .d)
    | _ => none
  | _ => none

def evStore (objs : List (Nat × AObj E)) (T : TypeId) (a v : AV E) : Option (Nat × AObj E) := match a with
  | .ptr id off => match look objs id with
    | some (.box cs) => match cellsA v, sizeT P T with
      | some vs, some n => if vs.length = n ∧ off + n ≤ cs.length ∧ allOk vs then some (id, .box (cs.take off ++ vs ++ cs.drop (off + n))) else none
      | _, _ => none
    | _ => none
  | .elt id i off => match look objs id with
    | some (.row t l) => match cellsA v, sizeT P T with
      | some vs, some n => match toDs vs with
        | some ds => if ds.length = n ∧ off + n ≤ E.size t then (match E.fold t ((E.cells t (l.getD i (E.dflt t))).take off ++ ds ++ (E.cells t (l.getD i (E.dflt t))).drop (off + n)) with
          | some x => some (id, .row t (l.set i x))
          | none => none) else none
        | none => none
      | _, _ => none
    | _ => none
  | _ => none

def evField (s : TypeId) (a : AV E) (f : Nat) : Option (AV E) := match P.underlying s with
  | some (.struct fs) => match fs[f]? with
    | some fl => match sizeT P fl.type with
      | some (_ + 1) => match a with
        | .ptr id off => some (.ptr id (off + fl.offset))
        | .pelt cs => some (.pelt (cs.drop fl.offset))
        | .elt id i off => some (.elt id i (off + fl.offset))
        | _ => none
      | _ => none
    | none => none
  | _ => none

def evFieldV (s : TypeId) (x : AV E) (f : Nat) : Option (AV E) := match P.underlying s with
  | some (.struct fs) => match fs[f]? with
    | some fl => match cellsA x with
      | some cs => match x with
        | .st _ _ => takeA fl.type (cs.drop fl.offset)
        | .agg _ => takeA fl.type (cs.drop fl.offset)
        | _ => none
      | none => none
    | none => none
  | _ => none

def zeroCellsA (T : TypeId) : Option (List (AV E)) := match P.info? T with
  | some i => match i.zero with
    | some z => some (z.cells.toList.map constS)
    | none => none
  | none => none

def fillA (place : Nat → Option (Nat × Nat)) (cells : List (AV E)) : List (Nat × AV E) → Option (List (AV E))
  | [] => some cells
  | (i, v) :: rest => match place i with
    | some (off, size) => match cellsA v with
      | some vs => if vs.length = size ∧ off + size ≤ cells.length then fillA place (cells.take off ++ vs ++ cells.drop (off + size)) rest else none
      | none => none
    | none => none

def builtA (T : TypeId) (parts : List (Nat × AV E)) : Option (List (AV E)) := match P.info? T, P.underlying T with
  | some it, some (.array _ e) => match it.zero, P.info? e with
    | some z, some ie => fillA (fun i => some (i * ie.size, ie.size)) (z.cells.toList.map constS) parts
    | _, _ => none
  | some it, some (.struct fields) => match it.zero, fields.toList.mapM (fun f => (P.info? f.type).map fun i => (f.offset, i.size)) with
    | some z, some places => fillA (places.toArray[·]?) (z.cells.toList.map constS) parts
    | _, _ => none
  | _, _ => none

def evBuild (T : TypeId) (parts : List (Nat × AV E)) : Option (AV E) := match builtA T parts with
  | some cs => some (packA T (.agg cs))
  | none => none

def evInt (op : BinOp) (k : IntKind) (a b : Int) : Option (Bool × AV E) := match op with
  | .add => some (true, .d (.int k (k.wrap (a + b))))
  | .sub => some (true, .d (.int k (k.wrap (a - b))))
  | .mul => some (true, .d (.int k (k.wrap (a * b))))
  | .quo => some (!(b == 0), .d (.int k (k.wrap (a.tdiv b))))
  | .rem => some (!(b == 0), .d (.int k (a.tmod b)))
  | .eql => some (true, .d (.bool (a == b)))
  | .neq => some (true, .d (.bool (a != b)))
  | .lss => some (true, .d (.bool (decide (a < b))))
  | .leq => some (true, .d (.bool (decide (a ≤ b))))
  | .gtr => some (true, .d (.bool (decide (b < a))))
  | .geq => some (true, .d (.bool (decide (b ≤ a))))
  | .and => some (true, .d (.int k (bits .and k a b)))
  | .or => some (true, .d (.int k (bits .or k a b)))
  | .xor => some (true, .d (.int k (bits .xor k a b)))
  | .andNot => some (true, .d (.int k (bits .andNot k a b)))
  | _ => none

def maxStr : Nat := 2 ^ 62

def evStr (op : BinOp) (a b : List UInt8) : Option (Bool × AV E) := match op with
  | .add => some (decide (a.length + b.length ≤ maxStr), .d (.str (a ++ b)))
  | .eql => some (true, .d (.bool (a == b)))
  | .neq => some (true, .d (.bool !(a == b)))
  | .lss => some (true, .d (.bool (Op.bytesLess a b)))
  | .leq => some (true, .d (.bool (Op.bytesLess a b || a == b)))
  | .gtr => some (true, .d (.bool !(Op.bytesLess a b || a == b)))
  | .geq => some (true, .d (.bool !(Op.bytesLess a b)))
  | _ => none

/-- Whole numbers as floats: exact below 2^53. -/
def fltOk (n : Int) : Bool := decide (n.natAbs < 9007199254740992)
def sumOk (n : Int) : Bool := decide (n.natAbs < 4503599627370496)
def evFlt (op : BinOp) (a b : Int) : Option (Bool × AV E) := match op with
  | .add => some (sumOk a && sumOk b, .d (.flt (a + b)))
  | .eql => some (fltOk a && fltOk b, .d (.bool (a == b)))
  | .neq => some (fltOk a && fltOk b, .d (.bool (a != b)))
  | .lss => some (fltOk a && fltOk b, .d (.bool (decide (a < b))))
  | .leq => some (fltOk a && fltOk b, .d (.bool (decide (a ≤ b))))
  | .gtr => some (fltOk a && fltOk b, .d (.bool (decide (b < a))))
  | .geq => some (fltOk a && fltOk b, .d (.bool (decide (b ≤ a))))
  | _ => none

def isBoolT (P : Program) (T : TypeId) : Bool := match P.underlying T with | some .bool => true | _ => false

def sameKind (k k' : IntKind) : Bool := decide (k = k')

def evSh (op : BinOp) (k : IntKind) (a b : Int) : Option (Bool × AV E) := match op with
  | .shl => some (decide (0 ≤ b) && decide (b ≤ (k.bits : Int)), .d (.int k (k.wrap (a * 2 ^ b.toNat))))
  | .shr => some (decide (0 ≤ b) && decide (b ≤ (k.bits : Int)), .d (.int k (a / 2 ^ b.toNat)))
  | _ => none
def evBin (op : BinOp) (T : TypeId) (x y : AV E) : Option (Bool × AV E) := match x, y with
  | .d (.int k a), .d (.int k' b) => (match evSh op k a b with
    | some r => some r
    | none => if sameKind k k' then evInt op k a b else none)
  | .d (.str a), .d (.str b) => evStr op a b
  | .d (.flt a), .d (.flt b) => evFlt op a b
  | .d (.cpx a b), .d (.cpx c d) => (match op with
    | .add => some (sumOk a && sumOk c && (sumOk b && sumOk d), .d (.cpx (a + c) (b + d)))
    | .eql => some (fltOk a && fltOk c && (fltOk b && fltOk d), .d (.bool (a == c && b == d)))
    | .neq => some (fltOk a && fltOk c && (fltOk b && fltOk d), .d (.bool !(a == c && b == d)))
    | _ => none)
  | .d (.bool a), .d (.bool b) => if isBoolT P T then (match op with
    | .eql => some (true, .d (.bool (a == b)))
    | .neq => some (true, .d (.bool !(a == b)))
    | _ => none) else none
  | _, _ => none

def evUn (op : UnOp) (x : AV E) : Option (Bool × AV E) := match op, x with
  | .neg, .d (.int k n) => some (true, .d (.int k (k.wrap (0 - n))))
  | .neg, .d (.flt n) => some (fltOk n, .d (.flt (-n)))
  | .not, .d (.bool b) => some (true, .d (.bool !b))
  | _, _ => none

def isIntT (P : Program) (T : TypeId) : Option IntKind := match P.underlying T with | some (.int k) => some k | _ => none

def isF64T (P : Program) (T : TypeId) : Bool := match P.underlying T with | some (.float .f64) => true | _ => false

def isStrT (P : Program) (T : TypeId) : Bool := match P.underlying T with | some .string => true | _ => false
def elemT (P : Program) (T : TypeId) : Option TypeId := match P.underlying T with | some (.slice e) => some e | _ => none

/-- A slice's elements. -/
def sliceA (e : TypeId) (x : AV E) : Option ((t : E.Ty) × List (E.Den t)) := match x with
  | .d (.slice t l) => some ⟨t, l⟩
  | .grow t l _ => some ⟨t, l⟩
  | .d (.raw (.slice none 0 0)) => match E.code e with | some t => some ⟨t, []⟩ | none => none
  | _ => none

/-- A slice of bytes as a text. -/
def isU8 (P : Program) (T : TypeId) : Bool := match P.underlying T with | some (.int .u8) => true | _ => false
def evConvB (src dst : TypeId) (x : AV E) : Option (AV E) := match isStrT P dst, elemT P src with
  | true, some e => (match isU8 P e, sliceA e x with
    | true, some ⟨t, l⟩ => (match E.byteT t with
      | some f => some (.d (.str (l.map fun y => UInt8.ofNat (f y).toNat)))
      | none => none)
    | _, _ => none)
  | _, _ => none
def evConv (src dst : TypeId) (x : AV E) : Option (Bool × AV E) := match x with
  | .d (.int _ n) => (match isIntT P src, isIntT P dst with
    | some _, some k => some (true, .d (.int k (k.wrap n)))
    | some _, none => if isF64T P dst then some (true, .d (.flt n)) else none
    | _, _ => none)
  | .d (.flt n) => (match isIntT P dst with
    | some .i64 => if isF64T P src then some (fltOk n, .d (.int .i64 n)) else none
    | _ => none)
  | x => match evConvB src dst x with
    | some v => some (true, v)
    | none => none

def evLen (T : TypeId) (x : AV E) : Option (AV E) :=
  if isStrT P T then (match x with | .d (.str s) => some (.d (.int .i64 s.length)) | _ => none)
  else match elemT P T with
    | some e => match x with
      | .row _ n _ => some (.d (.int .i64 n))
      | x => match sliceA e x with
        | some ⟨_, l⟩ => some (.d (.int .i64 l.length))
        | none => none
    | none => none

def arrT (P : Program) (T : TypeId) : Option (Nat × TypeId) := match P.underlying T with | some (.array n e) => some (n, e) | _ => none

/-- The address of a place of an array that stands in a box. -/
def evIndexArr (T : TypeId) (x i : AV E) : Option (Bool × AV E) := match arrT P T, i with
  | some (len, e), .d (.int _ n) => match x with
    | .ptr id off => match sizeT P e with
      | some size => if Nat.ble 2 len then some (decide (0 ≤ n) && decide (n < len), .ptr id (off + n.toNat * size)) else none
      | none => none
    | _ => none
  | _, _ => none

def evIndexAddr (T : TypeId) (x i : AV E) : Option (Bool × AV E) := match elemT P T, i with
  | some e, .d (.int _ n) => match x with
    | .row t len id => if Nat.beq (E.tid t) e then some (decide (0 ≤ n) && decide (n < len), .elt id n.toNat 0) else none
    | x => match sliceA e x with
    | some ⟨t, l⟩ => if Nat.beq (E.tid t) e then some (decide (0 ≤ n) && decide (n < l.length), .pelt (E.cells t (l.getD n.toNat (E.dflt t)))) else none
    | none => none
  | _, _ => none

def evIndex (T : TypeId) (x i : AV E) : Option (Bool × AV E) := if isStrT P T then (match x, i with
  | .d (.str s), .d (.int _ n) => some (decide (0 ≤ n) && decide (n < s.length), .d (.int .u8 (s.getD n.toNat 0).toNat))
  | _, _ => none) else none

/-- The elements of an array's cells. -/
def eltsA (e : TypeId) (t : E.Ty) (sz : Nat) : Nat → List (AV E) → Option (List (E.Den t))
  | 0, _ => some []
  | n + 1, cs => match takeA e cs with
    | some v => match foldA t v with
      | some x => match eltsA e t sz n (cs.drop sz) with
        | some xs => some (x :: xs)
        | none => none
      | none => none
    | none => none

/-- A place of an array. -/
def evIndexV (T : TypeId) (x i : AV E) : Option (Bool × AV E) := match arrT P T, i with
  | some (len, e), .d (.int _ n) => match E.code e, sizeT P e, cellsA x with
    | some t, some sz, some cs => match x with
      | .st _ _ => (match eltsA e t sz len cs with
        | some xs => some (decide (0 ≤ n) && decide (n < len), expandA t (xs.getD n.toNat (E.dflt t)))
        | none => none)
      | .agg _ => (match eltsA e t sz len cs with
        | some xs => some (decide (0 ≤ n) && decide (n < len), expandA t (xs.getD n.toNat (E.dflt t)))
        | none => none)
      | _ => none
    | _, _, _ => none
  | _, _ => none

/-! Equality by a type's shape. -/
def eqS (T : TypeId) (x y : AV E) : Option (Bool × Bool) := match P.underlying T with
  | some .bool => (match x, y with
    | .d (.bool a), .d (.bool b) => some (true, a == b)
    | _, _ => none)
  | some (.int _) => (match x, y with
    | .d (.int k a), .d (.int k' b) => if sameKind k k' then some (true, a == b) else none
    | _, _ => none)
  | some .string => (match x, y with
    | .d (.str a), .d (.str b) => some (true, a == b)
    | _, _ => none)
  | some (.float _) => (match x, y with
    | .d (.flt a), .d (.flt b) => some (fltOk a && fltOk b, a == b)
    | _, _ => none)
  | some (.complex _) => (match x, y with
    | .d (.cpx a b), .d (.cpx c d) => some (fltOk a && fltOk c && (fltOk b && fltOk d), a == c && b == d)
    | _, _ => none)
  | _ => none
def eqFs (rec : TypeId → AV E → AV E → Option (Bool × Bool)) : List Field → List (AV E) → List (AV E) → Option (Bool × Bool)
  | [], _, _ => some (true, true)
  | f :: r, xs, ys => if f.name = "_" then eqFs rec r xs ys else (match takeA f.type (xs.drop f.offset), takeA f.type (ys.drop f.offset) with
    | some a, some b => match rec f.type a b, eqFs rec r xs ys with
      | some (o1, b1), some (o2, b2) => some (o1 && o2, b1 && b2)
      | _, _ => none
    | _, _ => none)
def eqEs (rec : TypeId → AV E → AV E → Option (Bool × Bool)) (e : TypeId) (sz : Nat) : Nat → List (AV E) → List (AV E) → Option (Bool × Bool)
  | 0, _, _ => some (true, true)
  | n + 1, xs, ys => match takeA e xs, takeA e ys with
    | some a, some b => match rec e a b, eqEs rec e sz n (xs.drop sz) (ys.drop sz) with
      | some (o1, b1), some (o2, b2) => some (o1 && o2, b1 && b2)
      | _, _ => none
    | _, _ => none
def aggC (x : AV E) : Option (List (AV E)) := match x with
  | .st t y => cellsA (.st t y)
  | .agg cs => cellsA (.agg cs)
  | _ => none
def evEq : Nat → TypeId → AV E → AV E → Option (Bool × Bool)
  | 0, _, _, _ => none
  | d + 1, T, x, y => match P.underlying T with
    | some (.struct fs) => (match P.stoodInHeld T, aggC x, aggC y with
      | false, some xs, some ys => eqFs (evEq d) fs.toList xs ys
      | _, _, _ => none)
    | some (.array n e) => (match sizeT P e, aggC x, aggC y with
      | some sz, some xs, some ys => eqEs (evEq d) e sz n xs ys
      | _, _, _ => none)
    | _ => eqS T x y
def evBinEq (op : BinOp) (T : TypeId) (x y : AV E) : Option (Bool × AV E) := match P.eqGuardType P.depth T, aggC x, aggC y with
  | false, some _, some _ => (match op with
    | .eql => (match evEq 8 T x y with | some (o, b) => some (o, .d (.bool b)) | none => none)
    | .neq => (match evEq 8 T x y with | some (o, b) => some (o, .d (.bool !b)) | none => none)
    | _ => none)
  | _, _, _ => none

def loA : Option (AV E) → Option Int
  | none => some 0
  | some (.d (.int _ n)) => some n
  | _ => none
def hiA (len : Nat) : Option (AV E) → Option Int
  | none => some len
  | some (.d (.int _ n)) => some n
  | _ => none

def evSlice (T : TypeId) (x : AV E) (lo hi mx : Option (AV E)) : Option (Bool × AV E) := match mx with
  | some _ => none
  | none => if isStrT P T then (match x with
      | .d (.str s) => match loA lo, hiA s.length hi with
        | some l, some h => some (decide (0 ≤ l) && decide (l ≤ h) && decide (h ≤ s.length), .d (.str ((s.drop l.toNat).take (h.toNat - l.toNat))))
        | _, _ => none
      | _ => none)
    else match elemT P T with
      | some e => match sliceA e x with
        | some ⟨t, l⟩ => if Nat.beq (E.tid t) e then (match loA lo, hiA l.length hi with
          | some a, some h => some (decide (0 ≤ a) && decide (a ≤ h) && decide (h ≤ l.length), .d (.slice t ((l.drop a.toNat).take (h.toNat - a.toNat))))
          | _, _ => none) else none
        | none => none
      | none => none

/-- A slice of an array that is only read. -/
def foldCs (t : E.Ty) : List (DVal E.Den) → Option (List (E.Den t))
  | [] => some []
  | c :: r => match E.fold t [c] with
    | some x => match foldCs t r with
      | some xs => some (x :: xs)
      | none => none
    | none => none
def evSliceA (T : TypeId) (x : AV E) (lo hi mx : Option (AV E)) : Option (Bool × AV E) := match mx, arrT P T, x with
  | none, some (n, e), .pelt cs => (match E.code e with
    | some t => (match E.agg t, Nat.beq cs.length n with
      | false, true => (match foldCs t cs with
        | some l => (match loA lo, hiA n hi with
          | some a, some h => some (decide (0 ≤ a) && decide (a ≤ h) && decide (h ≤ n), .d (.slice t ((l.drop a.toNat).take (h.toNat - a.toNat))))
          | _, _ => none)
        | none => none)
      | _, _ => none)
    | none => none)
  | _, _, _ => none

def evExtract (x : AV E) (i : Nat) : Option (AV E) := match x with
  | .tup vs => match vs[i]? with
    | some (.cond _ _ _) => none
    | some v => some v
    | none => none
  | _ => none

def evPick (tm : List (Nat × AV E)) (asm : List (Nat × Bool)) (c a b : Operand) : Option (AV E) := match c, getA tm asm c with
  | .tmp j, .d (.bool x) => match getA tm ((j, true) :: asm) a, getA tm ((j, false) :: asm) b with
    | .d (.bool y), .d (.bool z) => some (.d (.bool (bif x then y else z)))
    | _, _ => none
  | _, _ => none

/-- Functions that are walked where they are called: upon the caller's own objects. -/
structure Inl (E : Env P) where
  has : FuncId → Bool
  run : {R : Type} → FuncId → List (AV E) → List (Nat × AObj E) → Nat → (AV E → List (Nat × AObj E) → Nat → Option R) → Option R
def Inl.nil : Inl E := ⟨fun _ => false, fun _ _ _ _ _ => none⟩
/-- A typed value. -/
abbrev TV (E : Env P) := (t : E.Ty) × E.Den t
/-- What is known of the functions that are called (and whether it holds): call: typed results; fresh: the one result is a new row of the caller's own. -/
structure Oracle (E : Env P) where
  call : FuncId → List (TV E) → Option (Bool × List (TV E))
  isFresh : FuncId → Bool
  isMut : FuncId → Bool
  fresh : FuncId → List (TV E) → Option (Bool × ((t : E.Ty) × List (E.Den t)))
  grow : FuncId → Option E.Ty
  rowf : FuncId → (t : E.Ty) → List (E.Den t) → List (TV E) → Option (Bool × Bool × List (E.Den t))
  inl : Inl E

def foldArgs : List TypeId → List (AV E) → Option (List (TV E))
  | [], [] => some []
  | T :: Ts, v :: vs => match E.code T with
    | some t => match foldA t v with
      | some x => match foldArgs Ts vs with
        | some r => some (⟨t, x⟩ :: r)
        | none => none
      | none => none
    | none => none
  | _, _ => none

def retA : List (TV E) → AV E
  | [⟨t, x⟩] => expandA t x
  | rs => .tup (rs.map fun r => expandA r.1 r.2)

def evCall (O : Oracle E) (nid : Nat) (f : FuncId) (ts : List TypeId) (args : List (AV E)) : Option (Res E) := match foldArgs ts args with
  | some xs => bif O.isFresh f then (match O.fresh f xs with
      | some (ok, ⟨t, l⟩) => some ⟨ok, .row t l.length nid, none, some (.row t l)⟩
      | none => none)
    else (match O.call f xs with
      | some (ok, r) => some ⟨ok, retA r, none, none⟩
      | none => none)
  | none => none

/-! A call that is handed a row of the caller's own: the row is laid open for good. -/
def rowArg (objs : List (Nat × AObj E)) : List (AV E) → Option (Nat × ((t : E.Ty) × List (E.Den t)))
  | [] => none
  | v :: r => match v with
    | .row _ _ id => (match look objs id with
      | some (.row t l) => some (id, ⟨t, l⟩)
      | _ => rowArg objs r)
    | _ => rowArg objs r
def openArg (id : Nat) (t : E.Ty) (l : List (E.Den t)) (v : AV E) : AV E := match v with
  | .row t' n id' => (match Nat.beq id' id with
    | true => .d (.slice t l)
    | false => .row t' n id')
  | v => v
def evCallR (O : Oracle E) (objs : List (Nat × AObj E)) (f : FuncId) (ts : List TypeId) (args : List (AV E)) : Option (Res E) := match rowArg objs args with
  | some (id, ⟨t, l⟩) => (match O.isFresh f with
    | true => none
    | false => match foldArgs ts (args.map (openArg id t l)) with
      | some xs => (match O.call f xs with
        | some (ok, r) => some ⟨ok, retA r, some (id, .dead), none⟩
        | none => none)
      | none => none)
  | none => none

/-! A call that only reads rows of the caller's own (whatever it hands back leads to no memory): they stay the caller's. -/
def flatD : DVal E.Den → Bool
  | .bool _ => true
  | .int _ _ => true
  | .str _ => true
  | _ => false
def flatR : List (TV E) → Bool
  | [] => true
  | ⟨t, x⟩ :: r => (E.cells t x).all flatD && flatR r
def openB (objs : List (Nat × AObj E)) (v : AV E) : AV E := match v with
  | .row t n id => (match look objs id with
    | some (.row t' l) => .d (.slice t' l)
    | _ => .row t n id)
  | v => v
def openBV (objs : List (Nat × AObj E)) (v : AV E) : AV E := match v with
  | .agg cs => .agg (cs.map (openB objs))
  | v => openB objs v
def isRow : AV E → Bool
  | .row _ _ _ => true
  | _ => false
def hasRow : List (AV E) → Bool
  | [] => false
  | v :: r => (match v with | .agg cs => cs.any isRow | v => isRow v) || hasRow r
def evCallB (O : Oracle E) (objs : List (Nat × AObj E)) (f : FuncId) (ts : List TypeId) (args : List (AV E)) : Option (Res E) := match hasRow args, O.isFresh f with
  | true, false => (match foldArgs ts (args.map (openBV objs)) with
    | some xs => (match O.call f xs with
      | some (ok, r) => (match flatR r with
        | true => some ⟨ok, retA r, none, none⟩
        | false => none)
      | none => none)
    | none => none)
  | _, _ => none

/-! A function without loops and branches that only reads boxes of the caller's own and hands back one plain value: walked upon the boxes lent to it for reading. -/
def dAll : List (AV E) → Option (List (DVal E.Den))
  | [] => some []
  | .d c :: r => (match dAll r with
    | some l => some (c :: l)
    | none => none)
  | _ :: _ => none
def lendP (objs : List (Nat × AObj E)) : List (AV E) → Option (List (AV E))
  | [] => some []
  | .ptr id off :: r => (match look objs id with
    | some (.box cs) => (match dAll cs with
      | some ds => (match lendP objs r with
        | some l => some (.pelt (ds.drop off) :: l)
        | none => none)
      | none => none)
    | _ => none)
  | .d c :: r => (match lendP objs r with
    | some l => some (.d c :: l)
    | none => none)
  | _ :: _ => none
def keepP (v : AV E) (_ : List (Nat × AObj E)) (_ : Nat) : Option (Res E) := match v with
  | .d c => (match flatD c with
    | true => some ⟨true, .d c, none, none⟩
    | false => none)
  | _ => none
def evCallP (O : Oracle E) (objs : List (Nat × AObj E)) (f : FuncId) (args : List (AV E)) : Option (Res E) := match O.inl.has f with
  | true => (match lendP objs args with
    | some xs => (match O.inl.run f xs [] 0 keepP with
      | some ⟨ok, v, none, none⟩ => some ⟨ok, v, none, none⟩
      | _ => none)
    | none => none)
  | false => none

/-- slices.Grow at a literal nil: an empty row of the caller's own. -/
def evCallG (O : Oracle E) (nid : Nat) (f : FuncId) (args : List (AV E)) : Option (Res E) := match O.grow f, args with
  | some t, [.d (.raw (.slice none 0 0)), .d (.int .i64 n)] => some ⟨decide (0 ≤ n) && decide (n * (E.bytes t : Int) ≤ 140737488355328), .row t 0 nid, none, some (.row t [])⟩
  | _, _ => none

/-- A call that works upon a row of the caller's own, handed over first: in place, or handing the row back. -/
def evCallM (O : Oracle E) (objs : List (Nat × AObj E)) (nid : Nat) (f : FuncId) (ts : List TypeId) (args : List (AV E)) : Option (Res E) := match ts, args with
  | _ :: ts, .row _ _ id :: args => (match look objs id with
    | some (.row t l) => (match foldArgs ts args with
      | some xs => (match O.rowf f t l xs with
        | some (ok, true, l') => some ⟨ok, .row t l'.length nid, some (id, .dead), some (.row t l')⟩
        | some (ok, false, l') => some ⟨ok, .any, some (id, .row t l'), none⟩
        | none => none)
      | none => none)
    | _ => none)
  | T :: ts, .d (.raw (.slice none 0 0)) :: args => (match elemT P T with
    | some e => (match E.code e with
      | some t => (match foldArgs ts args with
        | some xs => (match O.rowf f t [] xs with
          | some (ok, true, l') => some ⟨ok, .row t l'.length nid, none, some (.row t l')⟩
          | _ => none)
        | none => none)
      | none => none)
    | none => none)
  | _, _ => none

def maxBytes : Nat := 140737488355328

def castL (t t' : E.Ty) (x : List (E.Den t)) : Option (List (E.Den t')) := match E.dec t t' with
  | .isTrue h => some (h ▸ x)
  | .isFalse _ => none

def evAppend (objs : List (Nat × AObj E)) (nid : Nat) (T : TypeId) (s x : AV E) : Option (Res E) := match elemT P T with
  | some e => match sliceA e x with
    | some ⟨t, l2⟩ => if Nat.beq (E.tid t) e then (match s with
      | .d (.raw (.slice none 0 0)) => some ⟨decide (l2.length * E.bytes t ≤ maxBytes), .grow t l2 nid, none, some (.tail true)⟩
      | .grow t' l1 id => match castL t t' l2, look objs id with
        | some l2', some (.tail true) => some ⟨decide ((l1.length + l2'.length) * E.bytes t' ≤ maxBytes), .grow t' (l1 ++ l2') nid, some (id, .dead), some (.tail true)⟩
        | _, _ => none
      | .row _ _ id => match look objs id with
        | some (.row t' l1) => (match castL t t' l2 with
          | some l2' => some ⟨decide ((l1.length + l2'.length) * E.bytes t' ≤ maxBytes), .row t' (l1.length + l2'.length) nid, some (id, .dead), some (.row t' (l1 ++ l2'))⟩
          | none => none)
        | _ => none
      | _ => none) else none
    | none => none
  | none => none

/-- A text, appended to bytes. -/
def evAppendS (objs : List (Nat × AObj E)) (nid : Nat) (T T' : TypeId) (s x : AV E) : Option (Res E) := match isStrT P T', elemT P T with
  | true, some e => (match x with
    | .d (.str l) => (match E.code e with
      | some t => (match E.byteU t with
        | some g => evAppend objs nid T s (.d (.slice t (l.map fun b => g (b.toNat : Int))))
        | none => none)
      | none => none)
    | _ => none)
  | _, _ => none

/-- make([]T, n, c): a row of its own. -/
def evMake (nid : Nat) (T : TypeId) (n c : AV E) : Option (Res E) := match elemT P T with
  | some e => match E.code e, n, c with
    | some t, .d (.int _ n), .d (.int _ c) => match zeroCellsA e with
      | some cs => match toDs cs with
        | some ds => match E.fold t ds with
          | some x => some ⟨decide (0 ≤ n) && decide (n ≤ c) && decide (c * (E.bytes t : Int) ≤ maxBytes), .row t n.toNat nid, none, some (.row t (List.replicate n.toNat x))⟩
          | none => none
        | none => none
      | none => none
    | _, _, _ => none
  | none => none

/-- copy(dst, src) into an owned row. -/
def evCopy (objs : List (Nat × AObj E)) (T : TypeId) (d s : AV E) : Option (Res E) := match elemT P T with
  | some e => match d, sliceA e s with
    | .row _ _ id, some ⟨t, l2⟩ => match look objs id with
      | some (.row t' l1) => match castL t t' l2 with
        | some l2' => if Nat.beq (E.tid t') e then some ⟨true, .d (.int .i64 (min l1.length l2'.length : Nat)), some (id, .row t' (l2'.take l1.length ++ l1.drop l2'.length)), none⟩ else none
        | none => none
      | _ => none
    | _, _ => none
  | none => none

/-- min and max of two whole numbers. -/
def evMin (big : Bool) (T : TypeId) (x y : AV E) : Option (AV E) := match isIntT P T, x, y with
  | some _, .d (.int k a), .d (.int k' b) => if sameKind k k' then some (.d (.int k (bif big then (bif decide (a < b) then b else a) else (bif decide (b < a) then b else a)))) else none
  | _, _, _ => none

/-- The parts of a slice literal, in order. -/
def partsD (t : E.Ty) : Nat → List (Nat × AV E) → Option (List (E.Den t))
  | _, [] => some []
  | k, (i, v) :: r => if Nat.beq i k then (match foldA t v with
    | some x => match partsD t (k + 1) r with
      | some xs => some (x :: xs)
      | none => none
    | none => none) else none

def evBuildSlice (T : TypeId) (len : Nat) (parts : List (Nat × AV E)) : Option (AV E) := match elemT P T with
  | some e => match E.code e with
    | some t => match partsD t 0 parts with
      | some xs => if xs.length = len ∧ len * E.size t ≤ 16777216 then some (.d (.slice t xs)) else none
      | none => none
    | none => none
  | none => none

/-- A slice literal without parts: a row of its own, without cells. -/
def evBuildEmpty (nid : Nat) (T : TypeId) (len : Nat) (parts : List (Nat × AV E)) : Option (Res E) := match len, parts with
  | 0, [] => (match elemT P T with
    | some e => (match E.code e with
      | some t => some ⟨true, .row t 0 nid, none, some (.row t [])⟩
      | none => none)
    | none => none)
  | _, _ => none

def optA (tm : List (Nat × AV E)) (asm : List (Nat × Bool)) : Option Operand → Option (AV E)
  | none => none
  | some x => some (getA tm asm x)

def partsA (tm : List (Nat × AV E)) (asm : List (Nat × Bool)) (ps : Array (Nat × Operand)) : List (Nat × AV E) := ps.toList.map fun p => (p.1, getA tm asm p.2)
def argsA (tm : List (Nat × AV E)) (asm : List (Nat × Bool)) (ps : Array Operand) : List (AV E) := ps.toList.map (getA tm asm)

/-- A plain function, without captured values. -/
def funcOf : AV E → Option FuncId
  | .d (.raw (.func (.func f) ⟨[]⟩ ⟨[]⟩)) => some f
  | _ => none

/-- The function that is called. -/
def calleeA (g : Operand → AV E) : Operand → Option FuncId
  | .func f => some f
  | x => funcOf (g x)

def evOp (O : Oracle E) (S : ASt E) (asm : List (Nat × Bool)) (o : Op) : Option (Res E) :=
  let g := getA S.tmps asm
  match o with
  | .move x => some (.pure (g x))
  | .assign x => some (.pure (g x))
  | .pick c a b => (evPick S.tmps asm c a b).map .pure
  | .alloc T => (match zeroCellsA T with | some cs => if allOk cs then some ⟨true, .ptr S.next 0, none, some (.box cs)⟩ else none | none => none)
  | .box _ x => (match cellsA (g x) with | some cs => some ⟨true, .ptr S.next 0, none, some (.box cs)⟩ | none => none)
  | .build T ps => (evBuild T (partsA S.tmps asm ps)).map .pure
  | .buildSlice T n ps => (match evBuildEmpty S.next T n (partsA S.tmps asm ps) with
    | some r => some r
    | none => (evBuildSlice T n (partsA S.tmps asm ps)).map .pure)
  | .load T a => (evLoad S.objs T (g a)).map .pure
  | .store T a v => (match evStore S.objs T (g a) (g v) with | some u => some ⟨true, .any, some u, none⟩ | none => none)
  | .nilCheck x => (match g x with | .ptr id off => some (.pure (.ptr id off)) | .pelt cs => some (.pure (.pelt cs)) | .elt id i off => some (.pure (.elt id i off)) | _ => none)
  | .makeSlice T n c => evMake S.next T (g n) (g c)
  | .binOp op T x y _ => (match evBin op T (g x) (g y) with
    | some r => some (.test r.1 r.2)
    | none => (evBinEq op T (g x) (g y)).map fun r => .test r.1 r.2)
  | .unOp op _ x => (evUn op (g x)).map fun r => .test r.1 r.2
  | .convert s d x => (evConv s d (g x)).map fun r => .test r.1 r.2
  | .fieldAddr s x f => (evField s (g x) f).map .pure
  | .field s x f => (evFieldV s (g x) f).map .pure
  | .indexAddr T x i => (match evIndexAddr T (g x) (g i) with
    | some r => some (.test r.1 r.2)
    | none => (evIndexArr T (g x) (g i)).map fun r => .test r.1 r.2)
  | .index T x i => (match evIndex T (g x) (g i) with
    | some r => some (.test r.1 r.2)
    | none => (evIndexV T (g x) (g i)).map fun r => .test r.1 r.2)
  | .slice T x l h m => (match evSlice T (g x) (optA S.tmps asm l) (optA S.tmps asm h) (optA S.tmps asm m) with
    | some r => some (.test r.1 r.2)
    | none => (evSliceA T (g x) (optA S.tmps asm l) (optA S.tmps asm h) (optA S.tmps asm m)).map fun r => .test r.1 r.2)
  | .extract x i => (evExtract (g x) i).map .pure
  | .call c => match c.callee with
    | .builtin .len => (match argsA S.tmps asm c.args, c.argTypes.toList with
      | [x], [T] => (evLen T x).map .pure
      | _, _ => none)
    | .builtin .append => (match argsA S.tmps asm c.args, c.argTypes.toList with
      | [s, x], [T, T'] => if Nat.beq T T' then evAppend S.objs S.next T s x else evAppendS S.objs S.next T T' s x
      | _, _ => none)
    | .builtin .real => (match argsA S.tmps asm c.args with
      | [.d (.cpx a _)] => some (.pure (.d (.flt a)))
      | _ => none)
    | .builtin .imag => (match argsA S.tmps asm c.args with
      | [.d (.cpx _ b)] => some (.pure (.d (.flt b)))
      | _ => none)
    | .builtin .complex => (match argsA S.tmps asm c.args with
      | [.d (.flt a), .d (.flt b)] => some (.pure (.d (.cpx a b)))
      | _ => none)
    | .builtin .copy => (match argsA S.tmps asm c.args, c.argTypes.toList with
      | [d, s], [T, T'] => if Nat.beq T T' then evCopy S.objs T d s else none
      | _, _ => none)
    | .builtin .min => (match argsA S.tmps asm c.args, c.argTypes.toList with
      | [x, y], [T, _] => (evMin false T x y).map .pure
      | _, _ => none)
    | .builtin .max => (match argsA S.tmps asm c.args, c.argTypes.toList with
      | [x, y], [T, _] => (evMin true T x y).map .pure
      | _, _ => none)
    | .value x => (match calleeA g x with
      | some f => (match evCallG O S.next f (argsA S.tmps asm c.args) with
        | some r => some r
        | none => (match evCallM O S.objs S.next f c.argTypes.toList (argsA S.tmps asm c.args) with
        | some r => some r
        | none => (match evCallB O S.objs f c.argTypes.toList (argsA S.tmps asm c.args) with
          | some r => some r
          | none => (match evCallR O S.objs f c.argTypes.toList (argsA S.tmps asm c.args) with
            | some r => some r
            | none => (match evCallP O S.objs f (argsA S.tmps asm c.args) with
              | some r => some r
              | none => evCall O S.next f c.argTypes.toList (argsA S.tmps asm c.args))))))
      | none => none)
    | _ => none
  | _ => none
end

section
variable {P : Program} (E : Env P)

/-- An owned row: the cells of a block of its own, or no cells at all. -/
def OwnT (w : World) (gh : Gh) (xs : List Value) : Prop :=
  (w.ownsRow 0 gh.e gh.sz gh.v gh.n xs ∧ gh.blk = gh.v.ownBlock) ∨ (gh.n = 0 ∧ xs = [] ∧ gh.blk = none ∧ ∃ ad, gh.v = .slice ad 0 0)

/-- A row's cells read as a list. -/
def RowD (w : World) (ro : Nat → Nat → Prop) (t : E.Ty) (xs : List Value) (l : List (E.Den t)) : Prop :=
  ∀ (i : Nat) x (j : Nat) c, l[i]? = some x → (E.cells t x)[j]? = some c → ∃ u, xs[i * E.size t + j]? = some u ∧ DRep E w ro u c

def ObjOk (w : World) (ro : Nat → Nat → Prop) (ι : Nat → Option Gh) (id : Nat) : AObj E → Prop
  | .dead => True
  | .box cs => ∃ gh g vs e, ι id = some gh ∧ gh.v = .pointer (some ⟨g, 0, none⟩) ∧ gh.blk = some g ∧ w.heap[g]? = some (.cells vs e (0, 0)) ∧ vs.size = cs.length ∧
      (∀ (j : Nat) v c, vs[j]? = some v → cs[j]? = some c → v.oneCell' = true ∧ Rep E w ro ι v c) ∧ ∀ o, ¬ ro g o
  | .tail live => live = true → ∃ gh xs, ι id = some gh ∧ OwnT w gh xs ∧ ∀ g, gh.blk = some g → ∀ o, gh.n * gh.sz ≤ o → ¬ ro g o
  | .row t l => ∃ gh xs, ι id = some gh ∧ gh.n = l.length ∧ gh.e = E.tid t ∧ gh.sz = E.size t ∧ OwnT w gh xs ∧ RowD E w ro t xs l ∧ ∀ g, gh.blk = some g → ∀ o, ¬ ro g o

def TmOk (w : World) (ro : Nat → Nat → Prop) (ι : Nat → Option Gh) (a : Act) (tm : List (Nat × AV E)) : Prop :=
  ∀ t x, look tm t = some x → ∃ v, a.tmps[t]? = some v ∧ SRep E w ro ι a.tmps v x

/-- The world in which a call begins, and the block, if one, that it was handed for its own. -/
structure Keep where
  w : World
  ro : Nat → Nat → Prop
  ι : Nat → Option Gh
structure Start where
  w : World
  x : Option Nat
  k : Option Keep
abbrev Start.heap (s : Start) := s.w.heap

structure Base (w0 : Start) (ro0 : Nat → Nat → Prop) (a : Act) (w : World) (ι : Nat → Option Gh) (ro : Nat → Nat → Prop) : Prop where
  below : w0.w.grownBy w w0.x
  rolt : ∀ k o, ro k o → k < w.heap.size
  ronew : ∀ k o, ro k o → ro0 k o ∨ w0.heap.size ≤ k ∨ w0.x = some k
  ilt : ∀ id gh k, ι id = some gh → gh.blk = some k → (w0.heap.size ≤ k ∨ w0.x = some k) ∧ k < w.heap.size
  defers : a.defers = []
  keep : ∀ q, w0.k = some q → (∀ k o, q.ro k o → ro k o ∧ w.cell? ⟨k, o, none⟩ = q.w.cell? ⟨k, o, none⟩) ∧ ∀ id gh, q.ι id = some gh → ι id = some gh

def Inj (objs : List (Nat × AObj E)) (ι : Nat → Option Gh) : Prop :=
  ∀ (id id' : Nat) o o' gh gh' k, look objs id = some o → look objs id' = some o' → o.live = true → o'.live = true → ι id = some gh → ι id' = some gh' → gh.blk = some k → gh'.blk = some k → id = id'

structure Gam (w0 : Start) (ro0 : Nat → Nat → Prop) (S : ASt E) (a : Act) (w : World) (ι : Nat → Option Gh) (ro : Nat → Nat → Prop) : Prop where
  base : Base w0 ro0 a w ι ro
  size : a.tmps.size = S.n
  tmps : TmOk E w ro ι a S.tmps
  objs : ∀ (id : Nat) o, look S.objs id = some o → ObjOk E w ro ι id o
  inj : Inj E S.objs ι
  fresh : ∀ id, S.next ≤ id → ι id = none
  ids : ∀ id o, look S.objs id = some o → id < S.next

/-- What an operation leaves. -/
structure OpPost (w w' : World) (ι ι' : Nat → Option Gh) (ro ro' : Nat → Nat → Prop) (nid : Nat) (r : Res E) (val : Value) : Prop where
  os : w'.os = w.os
  tape : w'.tape = w.tape
  output : w'.output = w.output
  size : w.heap.size ≤ w'.heap.size
  frame : ∀ k, k < w.heap.size → (∀ id o gh, r.upd = some (id, o) → ι id = some gh → gh.blk ≠ some k) → w'.heap[k]? = w.heap[k]?
  cell : ∀ k o, ro k o → w'.cell? ⟨k, o, none⟩ = w.cell? ⟨k, o, none⟩
  mono : ∀ k o, ro k o → ro' k o
  rolt : ∀ k o, ro' k o → k < w'.heap.size
  fresh : ∀ k o, ro' k o → ro k o ∨ w.heap.size ≤ k ∨ ∃ id ob gh, r.upd = some (id, ob) ∧ ι id = some gh ∧ gh.blk = some k
  iold : ∀ id, id ≠ nid → ι' id = ι id
  inew : ∀ gh k, ι' nid = some gh → gh.blk = some k → k < w'.heap.size ∧ (w.heap.size ≤ k ∨ ∃ id ob gh0, r.upd = some (id, ob) ∧ ob.live = false ∧ ι id = some gh0 ∧ gh0.blk = some k)
  nonew : r.new = none → ι' = ι
  upd : ∀ id o, r.upd = some (id, o) → ObjOk E w' ro' ι' id o
  new : ∀ o, r.new = some o → ObjOk E w' ro' ι' nid o
  val : Rep E w' ro' ι' val r.v
end

section
variable {P : Program} {E : Env P}
theorem OpPost.pure {w : World} {ι : Nat → Option Gh} {ro : Nat → Nat → Prop} {nid : Nat} {r : Res E} {val : Value} (hu : r.upd = none) (hn : r.new = none) (hlt : ∀ k o, ro k o → k < w.heap.size) (hi : ι nid = none)
    (hv : Rep E w ro ι val r.v) : OpPost E w w ι ι ro ro nid r val where
  os := rfl
  tape := rfl
  output := rfl
  size := Nat.le_refl _
  frame := fun _ _ _ => rfl
  cell := fun _ _ _ => rfl
  mono := fun _ _ h => h
  rolt := hlt
  fresh := fun _ _ h => .inl h
  iold := fun _ _ => rfl
  inew := fun gh k h => by rw [hi] at h; cases h
  nonew := fun _ => rfl
  upd := fun id o h => by rw [hu] at h; cases h
  new := fun o h => by rw [hn] at h; cases h
  val := hv
end
end Go.Proofs.YtfoflgciceckoaaGreatDoor.Mir
