/- The Mirror, part L: a region that leaves its order open, whatever order the model draws. -/
import Derived.Test.YtfoflgciceckoaaGreatDoorMirK
namespace Go.Proofs.YtfoflgciceckoaaGreatDoor.Mir
open Go Go.RowKit

section
variable {P : Program} (E : Env P)
/-- What an operation of such a region has come to: its number, the numbers that come before it in every order, its slot and value, what it does to the objects, its class (0: no object; 1: reads or makes one; 2: writes one). -/
structure Ent where
  i : Nat
  pr : Nat
  dst : Option Nat
  x : AV E
  eff : List (Nat × AObj E)
  cls : Nat
end

section
variable {P : Program} {E : Env P}

def opCls (O : Oracle E) : Op → Nat
  | .makeSlice _ _ _ => 1
  | .buildSlice _ n _ => (match n with | 0 => 1 | _ => 0)
  | .alloc _ => 1
  | .box _ _ => 1
  | .load _ _ => 1
  | .store _ _ _ => 2
  | .call c => match c.callee with
    | .builtin .append => 2
    | .builtin .copy => 2
    | .value (.func f) => bif O.isMut f then 2 else bif O.isFresh f || (O.grow f).isSome || O.inl.has f then 1 else 0
    | _ => 0
  | _ => 0

def prOf : List (Ent E) → Nat → Option Nat
  | [], _ => none
  | e :: r, j => if Nat.beq e.i j then some e.pr else prOf r j

/-- The numbers that come before, as bits. -/
def predsOf (ents : List (Ent E)) : List Edge → Option Nat
  | [] => some 0
  | e :: r => match predsOf ents r with
    | none => none
    | some m => match Region.binds .any e with
      | false => some m
      | true => match prOf ents e.on with
        | some p => some (m ||| (p ||| 2 ^ e.on))
        | none => none

def selT (D : Nat → Bool) : List (Ent E) → List (Nat × AV E)
  | [] => []
  | e :: r => bif D e.i then putL e.dst e.x (selT D r) else selT D r

def selO (D : Nat → Bool) (objs : List (Nat × AObj E)) : List (Ent E) → List (Nat × AObj E)
  | [] => objs
  | e :: r => bif D e.i then e.eff ++ selO D objs r else selO D objs r

def hideD : List Oper → List (Nat × AV E)
  | [] => []
  | o :: r => putL o.dst .any (hideD r)

def effOf (nid : Nat) (r : Res E) : List (Nat × AObj E) := putO [] nid r

/-- May the operation stand here: what touches objects stays in the text's order. -/
def clsOk (c pr : Nat) : List (Ent E) → Bool
  | [] => true
  | e :: r => (match c, e.cls with
    | 0, _ => true
    | _, 0 => true
    | 1, _ => true
    | _, _ => Nat.testBit pr e.i) && clsOk c pr r

def resOk (c : Nat) (r : Res E) : Bool := match c, r.upd, r.new with
  | 0, none, none => true
  | 0, _, _ => false
  | 1, none, _ => true
  | 1, _, _ => false
  | _, _, _ => true

def dstNew (n : Nat) (d : Option Nat) (x : AV E) (ents : List (Ent E)) : Bool := match d with
  | none => true
  | some d => Nat.blt d n && condFree d [(0, x)] && ents.all fun e => match e.dst with | some d' => !Nat.beq d' d | none => true

def allD : Nat → Bool := fun _ => true

/-- The numbers that come before each operation, reckoned from the text alone. -/
def predsN (acc : List (Nat × Nat)) : List Edge → Nat
  | [] => 0
  | e :: r => match Region.binds .any e with
    | false => predsN acc r
    | true => match look acc e.on with
      | some p => predsN acc r ||| (p ||| 2 ^ e.on)
      | none => predsN acc r
def prGo : List Oper → Nat → List (Nat × Nat) → List (Nat × Nat)
  | [], _, acc => acc
  | o :: r, i, acc => prGo r (i + 1) ((i, predsN acc o.after.toList) :: acc)
def prTab (ops : Array Oper) : List (Nat × Nat) := prGo ops.toList 0 []
def isGuardN (l : List Oper) (j : Nat) : Bool := l.any fun o => match o.guard with | some (g, _) => Nat.beq g j | none => false
def tabBit (tab : List (Nat × Nat)) (i j : Nat) : Bool := match look tab j with
  | some p => Nat.testBit p i
  | none => false
/-- A slot that operation j sets is known to operation i as it was ahead of the region where i comes before j; else it is hidden. -/
def hideI (tab : List (Nat × Nat)) (all : List Oper) (i : Nat) : List Oper → Nat → List (Nat × AV E)
  | [], _ => []
  | o :: r, j => match tabBit tab i j && !(isGuardN all j) with
    | true => hideI tab all i r (j + 1)
    | false => putL o.dst .any (hideI tab all i r (j + 1))

/-- Is there a writer among them? -/
def has2 : List (Ent E) → Bool
  | [] => false
  | e :: r => (match e.cls with | 0 => false | 1 => false | _ => true) || has2 r
/-- The objects that they touch. -/
def effIds : List (Ent E) → List Nat
  | [] => []
  | e :: r => e.eff.map (·.1) ++ effIds r
def mem1 : List Nat → Nat → Bool
  | [], _ => false
  | i :: r, j => Nat.beq i j || mem1 r j
def hideA (ids : List Nat) : List (Nat × AObj E) → List (Nat × AObj E)
  | [] => []
  | (i, o) :: r => match mem1 ids i with
    | true => hideA ids r
    | false => (i, o) :: hideA ids r
/-- The objects that an operation may lean on: behind a writer a reader leans on those alone that nothing has touched. -/
def objsAt (c pr : Nat) (objs : List (Nat × AObj E)) (ents : List (Ent E)) : List (Nat × AObj E) := match c with
  | 0 => []
  | 1 => (match has2 ents with
    | true => hideA (effIds ents) objs
    | false => selO (Nat.testBit pr) objs ents)
  | _ => selO (Nat.testBit pr) objs ents

def evDraw {R : Type} (O : Oracle E) (ops : Array Oper) (n : Nat) (glob : List (Nat × AV E)) (objs : List (Nat × AObj E)) (next : Nat) : List Oper → List (Ent E) → Nat → (ASt E → Option R) → Option R
  | [], ents, i, k => k ⟨n, unCond (selT allD ents) ++ glob, selO allD objs ents, next + i⟩
  | o :: rest, ents, i, k => match predsOf ents o.after.toList with
    | none => none
    | some pr => match clsOk (opCls O o.op) pr ents with
      | false => none
      | true => match evG O ops ⟨n, selT (Nat.testBit pr) ents ++ (hideI (prTab ops) ops.toList i ops.toList 0 ++ glob), (objsAt (opCls O o.op) pr objs ents), next + i⟩ o with
        | none => none
        | some r => match resOk (opCls O o.op) r && dstNew n o.dst r.v ents with
          | false => none
          | true => bif r.ok then evDraw O ops n glob objs next rest (⟨i, pr, o.dst, r.v, effOf (next + i) r, opCls O o.op⟩ :: ents) (i + 1) k else none

def stateOf (n : Nat) (ops : Array Oper) (glob : List (Nat × AV E)) (objs : List (Nat × AObj E)) (c pr nid i : Nat) (ents : List (Ent E)) : ASt E :=
  ⟨n, selT (Nat.testBit pr) ents ++ (hideI (prTab ops) ops.toList i ops.toList 0 ++ glob), (objsAt c pr objs ents), nid⟩

/-- What is known of the operations of a region, once all are reckoned. -/
def EntOk (O : Oracle E) (ops : Array Oper) (n : Nat) (glob : List (Nat × AV E)) (objs : List (Nat × AObj E)) (next : Nat) (e : Ent E) (r : List (Ent E)) : Prop :=
  e.i = r.length ∧ ∃ o res, ops[e.i]? = some o ∧ predsOf r o.after.toList = some e.pr ∧ clsOk (opCls O o.op) e.pr r = true ∧ evG O ops (stateOf n ops glob objs (opCls O o.op) e.pr (next + e.i) e.i r) o = some res ∧
    resOk (opCls O o.op) res = true ∧ dstNew n o.dst res.v r = true ∧ res.ok = true ∧ e.dst = o.dst ∧ e.x = res.v ∧ e.eff = effOf (next + e.i) res ∧ e.cls = opCls O o.op
def EntsOk (O : Oracle E) (ops : Array Oper) (n : Nat) (glob : List (Nat × AV E)) (objs : List (Nat × AObj E)) (next : Nat) : List (Ent E) → Prop
  | [] => True
  | e :: r => EntsOk O ops n glob objs next r ∧ EntOk O ops n glob objs next e r

section
variable {O : Oracle E} {ops : Array Oper} {n next : Nat} {glob : List (Nat × AV E)} {objs : List (Nat × AObj E)}

theorem evDraw_ents {R : Type} {k : ASt E → Option R} {rr : R} : ∀ (rest pre : List Oper) (ents : List (Ent E)) (i : Nat), ops.toList = pre ++ rest → pre.length = i → ents.length = i → EntsOk O ops n glob objs next ents →
    evDraw O ops n glob objs next rest ents i k = some rr → ∃ L, EntsOk O ops n glob objs next L ∧ L.length = ops.size ∧ k ⟨n, unCond (selT allD L) ++ glob, selO allD objs L, next + ops.size⟩ = some rr
  | [], pre, ents, i, hl, hi, he, hok, h => by
    unfold evDraw at h
    have hs : ops.size = i := by rw [← Array.length_toList, hl, List.append_nil, hi]
    exact ⟨ents, hok, he.trans hs.symm, by rw [hs]; exact h⟩
  | o :: rest, pre, ents, i, hl, hi, he, hok, h => by
    unfold evDraw at h
    split at h
    · cases h
    · rename_i pr hpr
      split at h
      · cases h
      · rename_i hcls
        split at h
        · cases h
        · rename_i r hr
          split at h
          · cases h
          · rename_i hres
            simp only [Bool.and_eq_true] at hres
            cases hk : r.ok with
            | false => rw [hk] at h; cases h
            | true =>
              rw [hk] at h
              simp only [cond_true] at h
              have ho : ops[i]? = some o := by
                rw [← Array.getElem?_toList, hl, List.getElem?_append_right (by omega), hi, Nat.sub_self]; rfl
              exact evDraw_ents rest (pre ++ [o]) (⟨i, pr, o.dst, r.v, effOf (next + i) r, opCls O o.op⟩ :: ents) (i + 1) (by rw [hl]; simp) (by simp [hi]) (by simp [he])
                ⟨hok, he.symm, o, r, ho, hpr, hcls, hr, hres.1, hres.2, hk, rfl, rfl, rfl, rfl⟩ h

theorem EntsOk.split {pre r : List (Ent E)} {e : Ent E} (h : EntsOk O ops n glob objs next (pre ++ e :: r)) : EntsOk O ops n glob objs next (e :: r) := by
  induction pre with
  | nil => exact h
  | cons p pre ih => exact ih h.1

theorem EntsOk.lt {L : List (Ent E)} (h : EntsOk O ops n glob objs next L) : ∀ e ∈ L, e.i < L.length := by
  induction L with
  | nil => intro e he; cases he
  | cons p r ih =>
    intro e he
    simp only [List.length_cons]
    cases he with
    | head => have := h.2.1; omega
    | tail _ he => have := ih h.1 e he; omega

theorem EntsOk.uniq {L : List (Ent E)} (h : EntsOk O ops n glob objs next L) : ∀ e ∈ L, ∀ e' ∈ L, e.i = e'.i → e = e' := by
  induction L with
  | nil => intro e he; cases he
  | cons p r ih =>
    intro e he e' he' hi
    cases he with
    | head =>
      cases he' with
      | head => rfl
      | tail _ he' => have := h.1.lt e' he'; have := h.2.1; omega
    | tail _ he =>
      cases he' with
      | head => have := h.1.lt e he; have := h.2.1; omega
      | tail _ he' => exact ih h.1 e he e' he' hi

theorem EntsOk.has {L : List (Ent E)} (h : EntsOk O ops n glob objs next L) : ∀ j, j < L.length → ∃ e ∈ L, e.i = j := by
  induction L with
  | nil => intro j hj; simp at hj
  | cons p r ih =>
    intro j hj
    simp only [List.length_cons] at hj
    by_cases hjr : j < r.length
    · obtain ⟨e, he, hi⟩ := ih h.1 j hjr
      exact ⟨e, List.mem_cons_of_mem _ he, hi⟩
    · exact ⟨p, List.mem_cons_self, by have := h.2.1; omega⟩

theorem prOf_mem : ∀ {r : List (Ent E)} {j p : Nat}, prOf r j = some p → ∃ e ∈ r, e.i = j ∧ e.pr = p
  | [], _, _, h => by cases h
  | e :: r, j, p, h => by
    unfold prOf at h
    split at h
    · rename_i hb
      cases h
      exact ⟨e, List.mem_cons_self, Nat.eq_of_beq_eq_true hb, rfl⟩
    · obtain ⟨e', he', h1, h2⟩ := prOf_mem h
      exact ⟨e', List.mem_cons_of_mem _ he', h1, h2⟩

theorem testBit_or3 (m p q j : Nat) : Nat.testBit (m ||| (p ||| 2 ^ q)) j = true ↔ (Nat.testBit m j = true ∨ Nat.testBit p j = true ∨ j = q) := by
  rw [Nat.testBit_or, Nat.testBit_or, Nat.testBit_two_pow]
  simp only [Bool.or_eq_true, decide_eq_true_eq]
  constructor
  · rintro (h | h | h)
    · exact .inl h
    · exact .inr (.inl h)
    · exact .inr (.inr h.symm)
  · rintro (h | h | h)
    · exact .inl h
    · exact .inr (.inl h)
    · exact .inr (.inr h.symm)

/-- Where the numbers that come before come from. -/
theorem predsOf_inv : ∀ {r : List (Ent E)} {es : List Edge} {m : Nat}, predsOf r es = some m →
    (∀ j, Nat.testBit m j = true → ∃ ed ∈ es, Region.binds .any ed = true ∧ ∃ e ∈ r, e.i = ed.on ∧ (j = ed.on ∨ Nat.testBit e.pr j = true)) ∧ (∀ ed ∈ es, Region.binds .any ed = true → Nat.testBit m ed.on = true ∧ ∃ e ∈ r, e.i = ed.on)
  | r, [], m, h => by
    cases h
    exact ⟨fun j hj => by simp at hj, fun ed h => by cases h⟩
  | r, ed :: es, m, h => by
    unfold predsOf at h
    split at h
    · cases h
    · rename_i m' hm
      obtain ⟨h1, h2⟩ := predsOf_inv hm
      split at h
      · rename_i hb
        cases h
        refine ⟨fun j hj => ?_, fun ed' hed hb' => ?_⟩
        · obtain ⟨x, hx, rest⟩ := h1 j hj
          exact ⟨x, List.mem_cons_of_mem _ hx, rest⟩
        · cases hed with
          | head => rw [hb] at hb'; cases hb'
          | tail _ hed => exact h2 ed' hed hb'
      · rename_i hb
        split at h
        · rename_i p hp
          cases h
          obtain ⟨e, he, hei, hep⟩ := prOf_mem hp
          refine ⟨fun j hj => ?_, fun ed' hed hb' => ?_⟩
          · rcases (testBit_or3 _ _ _ _).1 hj with h | h | h
            · obtain ⟨x, hx, rest⟩ := h1 j h
              exact ⟨x, List.mem_cons_of_mem _ hx, rest⟩
            · exact ⟨ed, List.mem_cons_self, hb, e, he, hei, .inr (by rw [hep]; exact h)⟩
            · exact ⟨ed, List.mem_cons_self, hb, e, he, hei, .inl h⟩
          · cases hed with
            | head => exact ⟨(testBit_or3 _ _ _ _).2 (.inr (.inr rfl)), e, he, hei⟩
            | tail _ hed =>
              obtain ⟨g1, g2⟩ := h2 ed' hed hb'
              exact ⟨(testBit_or3 _ _ _ _).2 (.inl g1), g2⟩
        · cases h

theorem EntsOk.pr_lt {L : List (Ent E)} (h : EntsOk O ops n glob objs next L) : ∀ e ∈ L, ∀ j, Nat.testBit e.pr j = true → j < e.i := by
  induction L with
  | nil => intro e he; cases he
  | cons p r ih =>
    intro e he j hj
    cases he with
    | tail _ he => exact ih h.1 e he j hj
    | head =>
      obtain ⟨hi, o, res, ho, hpr, _⟩ := h.2
      obtain ⟨ed, _, _, e', he', hei, hj'⟩ := (predsOf_inv hpr).1 j hj
      have hlt := h.1.lt e' he'
      rcases hj' with h' | h'
      · omega
      · have := ih h.1 e' he' j h'; omega

theorem dstNew_inv {d : Nat} {x : AV E} {ents : List (Ent E)} (h : dstNew n (some d) x ents = true) : d < n ∧ (∀ gs want u, x = .cond gs want u → gs ≠ d) ∧ ∀ e ∈ ents, e.dst ≠ some d := by
  unfold dstNew at h
  simp only [Bool.and_eq_true, List.all_eq_true] at h
  obtain ⟨⟨h1, h2⟩, h3⟩ := h
  refine ⟨by simpa using h1, fun gs want u e => ?_, fun e he hd => ?_⟩
  · subst e
    exact condFree_mem _ _ h2 0 gs want u List.mem_cons_self
  · have := h3 e he
    rw [hd] at this
    simp at this

theorem EntsOk.dst_uniq {L : List (Ent E)} (h : EntsOk O ops n glob objs next L) : ∀ e ∈ L, ∀ e' ∈ L, ∀ d, e.dst = some d → e'.dst = some d → e = e' := by
  induction L with
  | nil => intro e he; cases he
  | cons p r ih =>
    have key : ∀ e' ∈ r, ∀ d, p.dst = some d → e'.dst = some d → False := by
      intro e' he' d hd hd'
      obtain ⟨hi, o, res, ho, hpr, _, _, _, hdn, _, hdst, _⟩ := h.2
      rw [hdst] at hd
      rw [hd] at hdn
      exact (dstNew_inv hdn).2.2 e' he' hd'
    intro e he e' he' d hd hd'
    cases he with
    | head =>
      cases he' with
      | head => rfl
      | tail _ he' => exact (key e' he' d hd hd').elim
    | tail _ he =>
      cases he' with
      | head => exact (key e he d hd' hd).elim
      | tail _ he' => exact ih h.1 e he e' he' d hd hd'

theorem look_putL {d : Option Nat} {x y : AV E} {loc : List (Nat × AV E)} {t : Nat} (h : look (putL d x loc) t = some y) : (d = some t ∧ y = x) ∨ (d ≠ some t ∧ look loc t = some y) := by
  cases d with
  | none => exact .inr ⟨(fun e => by cases e), h⟩
  | some d =>
    simp only [putL, look] at h
    split at h
    · rename_i hb
      have := Nat.eq_of_beq_eq_true hb
      subst this
      cases h
      exact .inl ⟨rfl, rfl⟩
    · rename_i hb
      exact .inr ⟨(fun e => by cases e; simp at hb), h⟩

theorem look_selT {D : Nat → Bool} : ∀ {L : List (Ent E)} {t : Nat} {x : AV E}, look (selT D L) t = some x → ∃ e ∈ L, D e.i = true ∧ e.dst = some t ∧ x = e.x
  | [], _, _, h => by cases h
  | e :: r, t, x, h => by
    unfold selT at h
    cases hd : D e.i with
    | false =>
      rw [hd] at h
      obtain ⟨e', he', rest⟩ := look_selT h
      exact ⟨e', List.mem_cons_of_mem _ he', rest⟩
    | true =>
      rw [hd] at h
      rcases look_putL h with ⟨h1, h2⟩ | ⟨_, h⟩
      · exact ⟨e, List.mem_cons_self, hd, h1, h2⟩
      · obtain ⟨e', he', rest⟩ := look_selT h
        exact ⟨e', List.mem_cons_of_mem _ he', rest⟩

theorem look_selT_none {D : Nat → Bool} : ∀ {L : List (Ent E)} {t : Nat}, look (selT D L) t = none → ∀ e ∈ L, D e.i = true → e.dst ≠ some t
  | [], _, _, e, he, _ => by cases he
  | p :: r, t, h, e, he, hD => by
    unfold selT at h
    cases hd : D p.i with
    | false =>
      rw [hd] at h
      cases he with
      | head => rw [hd] at hD; cases hD
      | tail _ he => exact look_selT_none h e he hD
    | true =>
      rw [hd] at h
      simp only [cond_true] at h
      have h2 : p.dst ≠ some t ∧ look (selT D r) t = none := by
        cases hp : p.dst with
        | none => rw [hp] at h; exact ⟨(fun e => by cases e), h⟩
        | some d =>
          rw [hp] at h
          simp only [putL, look] at h
          split at h
          · cases h
          · rename_i hb
            exact ⟨(fun e => by cases e; simp at hb), h⟩
      cases he with
      | head => exact h2.1
      | tail _ he => exact look_selT_none h2.2 e he hD

theorem look_hideI {tab : List (Nat × Nat)} {all : List Oper} {i : Nat} : ∀ {l : List Oper} {j t : Nat} {x : AV E}, look (hideI tab all i l j) t = some x → x = .any ∧ ∃ o ∈ l, o.dst = some t
  | [], _, _, _, h => by cases h
  | o :: r, j, t, x, h => by
    unfold hideI at h
    split at h
    · obtain ⟨h1, o', ho', h2⟩ := look_hideI h
      exact ⟨h1, o', List.mem_cons_of_mem _ ho', h2⟩
    · rcases look_putL h with ⟨h1, h2⟩ | ⟨_, h⟩
      · exact ⟨h2, o, List.mem_cons_self, h1⟩
      · obtain ⟨h1, o', ho', h2⟩ := look_hideI h
        exact ⟨h1, o', List.mem_cons_of_mem _ ho', h2⟩

theorem look_hideI_none {tab : List (Nat × Nat)} {all : List Oper} {i : Nat} : ∀ {l : List Oper} {j t : Nat}, look (hideI (E := E) tab all i l j) t = none → ∀ (m : Nat) o, l[m]? = some o → o.dst = some t → tabBit tab i (j + m) = true ∧ isGuardN all (j + m) = false
  | [], _, _, _, m, o, hm, _ => by simp at hm
  | p :: r, j, t, h, m, o, hm, hd => by
    unfold hideI at h
    split at h
    · rename_i hb
      simp only [Bool.and_eq_true, Bool.not_eq_true'] at hb
      cases m with
      | zero => exact hb
      | succ m =>
        have := look_hideI_none h m o (by simpa using hm) hd
        rwa [show j + 1 + m = j + (m + 1) from by omega] at this
    · have h2 : p.dst ≠ some t ∧ look (hideI (E := E) tab all i r (j + 1)) t = none := by
        cases hp : p.dst with
        | none => rw [hp] at h; exact ⟨(fun e => by cases e), h⟩
        | some d =>
          rw [hp] at h
          simp only [putL, look] at h
          split at h
          · cases h
          · rename_i hb
            exact ⟨(fun e => by cases e; simp at hb), h⟩
      cases m with
      | zero => simp at hm; subst hm; exact absurd hd h2.1
      | succ m =>
        have := look_hideI_none h2.2 m o (by simpa using hm) hd
        rwa [show j + 1 + m = j + (m + 1) from by omega] at this

/-! The table is right -/
theorem prGo_app : ∀ (a b : List Oper) (i : Nat) (acc : List (Nat × Nat)), prGo (a ++ b) i acc = prGo b (i + a.length) (prGo a i acc)
  | [], b, i, acc => by simp [prGo]
  | o :: a, b, i, acc => by
    simp only [List.cons_append, prGo, List.length_cons]
    rw [prGo_app a b]
    congr 1
    omega
def entTab (L : List (Ent E)) : List (Nat × Nat) := L.map fun e => (e.i, e.pr)
theorem prOf_tab : ∀ (L : List (Ent E)) (j : Nat), prOf L j = look (entTab L) j
  | [], _ => rfl
  | e :: r, j => by
    simp only [prOf, entTab, List.map_cons, look]
    split
    · rfl
    · exact prOf_tab r j
theorem predsOf_tab (L : List (Ent E)) : ∀ (es : List Edge) (p : Nat), predsOf L es = some p → predsN (entTab L) es = p
  | [], p, h => by cases h; rfl
  | e :: r, p, h => by
    unfold predsOf at h
    unfold predsN
    split at h
    · cases h
    · rename_i m hm
      have ih := predsOf_tab L r m hm
      split at h
      · cases h; exact ih
      · rename_i hb
        split at h
        · rename_i q hq
          cases h
          rw [prOf_tab] at hq
          rw [hq]
          simp only [ih]
        · cases h
theorem ents_tab : ∀ (L : List (Ent E)), EntsOk O ops n glob objs next L → L.length ≤ ops.size → prGo (ops.toList.take L.length) 0 [] = entTab L
  | [], _, _ => rfl
  | e :: r, h, hl => by
    obtain ⟨h1, hi, o, res, ho, hpr, _⟩ := h
    have hl' : r.length < ops.size := by rw [List.length_cons] at hl; omega
    have ih := ents_tab r h1 (by omega)
    rw [hi] at ho
    have ho' : ops.toList[r.length]? = some o := by simpa using ho
    have hlt : r.length < ops.toList.length := by simpa using hl'
    rw [List.length_cons, List.take_succ_eq_append_getElem hlt, prGo_app, ih]
    have hog : ops.toList[r.length] = o := by rw [List.getElem?_eq_getElem hlt] at ho'; exact Option.some.inj ho'
    rw [hog]
    simp only [prGo, List.length_take, Nat.zero_add]
    rw [Nat.min_eq_left (by omega), predsOf_tab r _ _ hpr, ← hi]
    rfl
theorem EntsOk.tab {L : List (Ent E)} (h : EntsOk O ops n glob objs next L) (hlen : L.length = ops.size) : ∀ e ∈ L, look (prTab ops) e.i = some e.pr := by
  have ht := ents_tab L h (by omega)
  rw [hlen, List.take_of_length_le (by simp)] at ht
  unfold prTab
  rw [ht]
  have key : ∀ (M : List (Ent E)), EntsOk O ops n glob objs next M → ∀ e ∈ M, look (entTab M) e.i = some e.pr := by
    intro M
    induction M with
    | nil => intro _ e he; cases he
    | cons p r ih =>
      intro hM e he
      simp only [entTab, List.map_cons, look]
      rcases List.mem_cons.1 he with rfl | he
      · rw [if_pos (by simp)]
      · have h1 := hM.1.lt e he
        have h2 := hM.2.1
        rw [if_neg (by simp; omega)]
        exact ih hM.1 e he
  exact key L h
end
end
end Go.Proofs.YtfoflgciceckoaaGreatDoor.Mir
