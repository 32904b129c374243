/- The Mirror, part A: typed pure values and how they are represented in the model's memory (over any program; no conditions). -/
import Derived.Maps.AppendAt
import Derived.Below
import Derived.KernelRfl
import Derived.LoopN
import Derived.Orders
import Derived.WalkKit
import Derived.Test.YtfoflgciceckoaaGreatDoorF64
namespace Go.Proofs.YtfoflgciceckoaaGreatDoor.Mir
open Go Go.RowKit

/-- The first entry under a key. -/
def look {α : Type} : List (Nat × α) → Nat → Option α
  | [], _ => none
  | (i, x) :: r, j => if Nat.beq i j then some x else look r j

/-- A closed value of one cell. -/
inductive DVal {Ty : Type} (Den : Ty → Type) where
  | bool (b : Bool)
  | int (k : IntKind) (n : Int)
  | str (s : List UInt8)
  | raw (v : Value)
  | flt (n : Int)
  | cpx (a b : Int)
  | slice (t : Ty) (l : List (Den t))

/-- A value as the interpreter sees it. -/
inductive AVal {Ty : Type} (Den : Ty → Type) where
  | any
  | d (c : DVal Den)
  | st (t : Ty) (x : Den t)
  | agg (cs : List (AVal Den))
  | tup (vs : List (AVal Den))
  | grow (t : Ty) (l : List (Den t)) (id : Nat)
  | ptr (id off : Nat)
  | pelt (cs : List (DVal Den))
  | row (t : Ty) (n id : Nat)
  | elt (id i off : Nat)
  | cond (j : Nat) (want : Bool) (v : AVal Den)

def DLe {Ty : Type} {Den : Ty → Type} (c e : DVal Den) : Prop := c = e ∨ (c = .raw (.slice none 0 0) ∧ ∃ t, e = .slice t [])
def CsLe {Ty : Type} {Den : Ty → Type} : List (DVal Den) → List (DVal Den) → Prop
  | [], [] => True
  | a :: as, b :: bs => DLe a b ∧ CsLe as bs
  | _, _ => False

def isAggT (P : Program) (t : TypeId) : Bool := match P.underlying t with | some (.struct _) => true | some (.array _ _) => true | _ => false

structure Env (P : Program) where
  Ty : Type
  dec : DecidableEq Ty
  Den : Ty → Type
  tid : Ty → TypeId
  code : TypeId → Option Ty
  agg : Ty → Bool
  size : Ty → Nat
  bytes : Ty → Nat
  cells : (t : Ty) → Den t → List (DVal Den)
  fold : (t : Ty) → List (DVal Den) → Option (Den t)
  code_ok : ∀ i t, code i = some t → i = tid t
  info_ok : ∀ t, ∃ i z, P.info? (tid t) = some i ∧ i.size = size t ∧ i.bytes = bytes t ∧ i.zero = some z ∧ z.cells.size = size t
  agg_ok : ∀ t, isAggT P (tid t) = agg t
  und_ok : ∀ t, (P.underlying (tid t)).isSome = true
  size_pos : ∀ t, 0 < size t
  bytes_pos : ∀ t, 0 < bytes t
  one : ∀ t, agg t = false → size t = 1
  cells_len : ∀ t x, (cells t x).length = size t
  dflt : (t : Ty) → Den t
  fold_ok : ∀ t cs x, fold t cs = some x → CsLe cs (cells t x)
  byteT : (t : Ty) → Option (Den t → Int)
  byte_ok : ∀ t f, byteT t = some f → ∀ x, cells t x = [.int .u8 (f x)]
  byteU : (t : Ty) → Option (Int → Den t)
  byteU_ok : ∀ t g, byteU t = some g → ∀ n, cells t (g n) = [.int .u8 n]

section
variable {P : Program} (E : Env P) (w : World) (ro : Nat → Nat → Prop)

inductive DRep : Value → DVal E.Den → Prop
  | bool (b : Bool) : DRep (.bool b) (.bool b)
  | int (k : IntKind) (n : Int) : DRep (.int k n) (.int k n)
  | str (s : List UInt8) : DRep (.string ⟨s.toArray⟩) (.str s)
  | raw (v : Value) : v.oneCell' = true → DRep v (.raw v)
  | flt (b : Nat) (n : Int) : F64.IsF b n → DRep (.float .f64 b) (.flt n)
  | cpx (x y : Nat) (a b : Int) : F64.IsF x a → F64.IsF y b → DRep (.complex .f64 x y) (.cpx a b)
  | nil (t : E.Ty) (a : Option Addr) (cap : Nat) : DRep (.slice a 0 cap) (.slice t [])
  | slice (t : E.Ty) (l : List (E.Den t)) (g off cap : Nat) (f : Nat → Nat → Value) : l.length ≤ cap →
      (∀ i x j c, l[i]? = some x → (E.cells t x)[j]? = some c → ro g (off + i * E.size t + j) ∧ w.cell? ⟨g, off + i * E.size t + j, none⟩ = some (f i j)) →
      (∀ i x j c, l[i]? = some x → (E.cells t x)[j]? = some c → DRep (f i j) c) →
      DRep (.slice (some ⟨g, off, none⟩) l.length cap) (.slice t l)

/-- A row of cells that reads as a list. -/
def RowRep (vs : Array Value) (cs : List (DVal E.Den)) : Prop :=
  vs.size = cs.length ∧ ∀ (j : Nat) v c, vs[j]? = some v → cs[j]? = some c → DRep E w ro v c

/-- A value of a type. -/
def TRep (v : Value) (t : E.Ty) (x : E.Den t) : Prop :=
  (E.agg t = true ∧ ∃ vs, v = .agg vs ∧ RowRep E w ro vs (E.cells t x)) ∨ (E.agg t = false ∧ ∃ c, E.cells t x = [c] ∧ DRep E w ro v c)

/-- What a local object is in memory: the value that names it, and (of a slice with an owned tail) its length. -/
structure Gh where
  v : Value
  n : Nat
  e : TypeId
  sz : Nat
  blk : Option Nat

variable (ι : Nat → Option Gh)
inductive Rep : Value → AVal E.Den → Prop
  | any (v : Value) : Rep v .any
  | d (v : Value) (c : DVal E.Den) : DRep E w ro v c → Rep v (.d c)
  | st (vs : Array Value) (t : E.Ty) (x : E.Den t) : E.agg t = true → RowRep E w ro vs (E.cells t x) → Rep (.agg vs) (.st t x)
  | agg (vs : Array Value) (cs : List (AVal E.Den)) : vs.size = cs.length → (∀ (j : Nat) v c, vs[j]? = some v → cs[j]? = some c → Rep v c) → Rep (.agg vs) (.agg cs)
  | tup (vs : Array Value) (cs : List (AVal E.Den)) : vs.size = cs.length → (∀ (j : Nat) v c, vs[j]? = some v → cs[j]? = some c → Rep v c) → Rep (.tuple vs) (.tup cs)
  | grow (gh : Gh) (t : E.Ty) (l : List (E.Den t)) (id : Nat) : ι id = some gh → gh.n = l.length → gh.e = E.tid t → gh.sz = E.size t → DRep E w ro gh.v (.slice t l) → Rep gh.v (.grow t l id)
  | ptr (gh : Gh) (g id off : Nat) : ι id = some gh → gh.v = .pointer (some ⟨g, 0, none⟩) → Rep (.pointer (some ⟨g, off, none⟩)) (.ptr id off)
  | pelt (g off : Nat) (f : Nat → Value) (cs : List (DVal E.Den)) :
      (∀ j c, cs[j]? = some c → ro g (off + j) ∧ w.cell? ⟨g, off + j, none⟩ = some (f j)) → (∀ j c, cs[j]? = some c → DRep E w ro (f j) c) →
      Rep (.pointer (some ⟨g, off, none⟩)) (.pelt cs)
  | row (gh : Gh) (t : E.Ty) (id : Nat) (ad : Option Addr) (cap : Nat) : ι id = some gh → gh.e = E.tid t → gh.sz = E.size t → gh.v = .slice ad gh.n cap → (0 < gh.n → ∃ g, ad = some ⟨g, 0, none⟩) → Rep gh.v (.row t gh.n id)
  | elt (gh : Gh) (g id i off cap : Nat) : ι id = some gh → gh.v = .slice (some ⟨g, 0, none⟩) gh.n cap → i < gh.n → Rep (.pointer (some ⟨g, i * gh.sz + off, none⟩)) (.elt id i off)

/-- A slot: what is known under a guard is known where the guard's slot says so. -/
def SRep (tm : Array Value) (v : Value) : AVal E.Den → Prop
  | .cond j want u => (tm[j]? = some (.bool want) → Rep E w ro ι v u) ∧ (tm[j]? ≠ some (.bool want) → v = undef)
  | x => Rep E w ro ι v x
end

section
variable {P : Program} {E : Env P} {w w' : World} {ro ro' : Nat → Nat → Prop} {ι ι' : Nat → Option Gh}

theorem DRep.mono {v : Value} {c : DVal E.Den} (hr : ∀ k o, ro k o → ro' k o) (hc : ∀ k o, ro k o → w'.cell? ⟨k, o, none⟩ = w.cell? ⟨k, o, none⟩) (h : DRep E w ro v c) : DRep E w' ro' v c := by
  induction h with
  | bool b => exact .bool b
  | int k n => exact .int k n
  | str s => exact .str s
  | raw v h => exact .raw v h
  | flt b n h => exact .flt b n h
  | cpx x y a b h1 h2 => exact .cpx x y a b h1 h2
  | nil t a cap => exact .nil t a cap
  | slice t l g off cap f hl h1 _ ih =>
    refine .slice t l g off cap f hl (fun i x j c hx hj => ?_) ih
    obtain ⟨a, b⟩ := h1 i x j c hx hj
    exact ⟨hr _ _ a, (hc _ _ a).trans b⟩

theorem RowRep.mono {vs : Array Value} {cs : List (DVal E.Den)} (hr : ∀ k o, ro k o → ro' k o) (hc : ∀ k o, ro k o → w'.cell? ⟨k, o, none⟩ = w.cell? ⟨k, o, none⟩) (h : RowRep E w ro vs cs) : RowRep E w' ro' vs cs :=
  ⟨h.1, fun j v c hv hj => (h.2 j v c hv hj).mono hr hc⟩

theorem TRep.mono {v : Value} {t : E.Ty} {x : E.Den t} (hr : ∀ k o, ro k o → ro' k o) (hc : ∀ k o, ro k o → w'.cell? ⟨k, o, none⟩ = w.cell? ⟨k, o, none⟩) (h : TRep E w ro v t x) : TRep E w' ro' v t x := by
  rcases h with ⟨ha, vs, hv, hrow⟩ | ⟨ha, c, hcs, hd⟩
  · exact .inl ⟨ha, vs, hv, hrow.mono hr hc⟩
  · exact .inr ⟨ha, c, hcs, hd.mono hr hc⟩

theorem Rep.mono {v : Value} {c : AVal E.Den} (hr : ∀ k o, ro k o → ro' k o) (hc : ∀ k o, ro k o → w'.cell? ⟨k, o, none⟩ = w.cell? ⟨k, o, none⟩) (hi : ∀ id gh, ι id = some gh → ι' id = some gh)
    (h : Rep E w ro ι v c) : Rep E w' ro' ι' v c := by
  induction h with
  | any v => exact .any v
  | d v c h => exact .d v c (h.mono hr hc)
  | st vs t x ha h => exact .st vs t x ha (h.mono hr hc)
  | agg vs cs hs _ ih => exact .agg vs cs hs ih
  | tup vs cs hs _ ih => exact .tup vs cs hs ih
  | grow gh t l id h1 hn he hs h2 => exact .grow gh t l id (hi _ _ h1) hn he hs (h2.mono hr hc)
  | ptr gh g id off h hv => exact .ptr gh g id off (hi _ _ h) hv
  | pelt g off f cs h1 h2 =>
    refine .pelt g off f cs (fun j c hj => ?_) (fun j c hj => (h2 j c hj).mono hr hc)
    obtain ⟨a, b⟩ := h1 j c hj
    exact ⟨hr _ _ a, (hc _ _ a).trans b⟩
  | row gh t id ad cap h1 h2 h3 h4 h5 => exact .row gh t id ad cap (hi _ _ h1) h2 h3 h4 h5
  | elt gh g id i off cap h1 h2 h3 => exact .elt gh g id i off cap (hi _ _ h1) h2 h3

theorem SRep.mono {tm : Array Value} {v : Value} {c : AVal E.Den} (hr : ∀ k o, ro k o → ro' k o) (hc : ∀ k o, ro k o → w'.cell? ⟨k, o, none⟩ = w.cell? ⟨k, o, none⟩) (hi : ∀ id gh, ι id = some gh → ι' id = some gh)
    (h : SRep E w ro ι tm v c) : SRep E w' ro' ι' tm v c := by
  cases c with
  | cond j want u => exact ⟨fun ht => (h.1 ht).mono hr hc hi, h.2⟩
  | _ => exact Rep.mono hr hc hi h

theorem DLe.rep {v : Value} {c e : DVal E.Den} (h : DLe c e) (hr : DRep E w ro v c) : DRep E w ro v e := by
  rcases h with rfl | ⟨rfl, t, rfl⟩
  · exact hr
  · cases hr
    exact .nil t none 0

theorem CsLe.len {Ty : Type} {Den : Ty → Type} : ∀ {cs ds : List (DVal Den)}, CsLe cs ds → cs.length = ds.length
  | [], [], _ => rfl
  | _ :: _, _ :: _, h => by simp [CsLe.len h.2]
  | [], _ :: _, h => h.elim
  | _ :: _, [], h => h.elim

theorem CsLe.at_ {Ty : Type} {Den : Ty → Type} : ∀ {cs ds : List (DVal Den)}, CsLe cs ds → ∀ (i : Nat) c e, cs[i]? = some c → ds[i]? = some e → DLe c e
  | a :: _, b :: _, h, 0, c, e, hc, he => by
    simp at hc he
    subst hc; subst he
    exact h.1
  | a :: _, b :: _, h, i + 1, c, e, hc, he => CsLe.at_ h.2 i c e (by simpa using hc) (by simpa using he)
  | [], _, _, i, c, e, hc, _ => by simp at hc
  | _ :: _, [], h, _, _, _, _, _ => h.elim

theorem RowRep.le {vs : Array Value} {cs ds : List (DVal E.Den)} (h : CsLe cs ds) (hr : RowRep E w ro vs cs) : RowRep E w ro vs ds := by
  have hl := h.len
  refine ⟨hr.1.trans hl, fun j v e hv he => ?_⟩
  have hj : j < cs.length := by rw [hl]; exact (List.getElem?_eq_some_iff.1 he).1
  exact (h.at_ j _ e (List.getElem?_eq_getElem hj) he).rep (hr.2 j v _ hv (List.getElem?_eq_getElem hj))
end

section
variable {P : Program} {E : Env P} {w : World} {ro : Nat → Nat → Prop} {ι : Nat → Option Gh}
theorem DRep.one {v : Value} {c : DVal E.Den} (h : DRep E w ro v c) : v.oneCell' = true := by
  cases h <;> first | rfl | assumption

theorem Value.cells_one {v : Value} (h : v.oneCell' = true) : v.cells = #[v] := by cases v <;> first | rfl | cases h
end
end Go.Proofs.YtfoflgciceckoaaGreatDoor.Mir
