/- Part 3 of a proof: the texts MirL MirM MirN MirO MirP MirQ MirR MirU MirW, one behind the other. -/
import Derived.Test.YtiahkjjfhnfdiaaGreatDoorSf2
import Derived.Scope
import Derived.Lib.SliceRun
namespace Go.Proofs.YtiahkjjfhnfdiaaGreatDoor.Mir
open Go Go.RowKit
noncomputable section
section
variable {P : Program} (E : Env P)
structure Ent where
  i : Nat
  pr : Nat
  dst : Option Nat
  x : AV E
  eff : List (Nat × AObj E)
  cls : Nat
end
section
variable {P : Program} {E : Env P}
def opCls (O : Oracle E) : Op → Nat
  | .makeSlice _ _ _ => 1
  | .makeMap _ _ => 1
  | .buildSlice _ n _ => (match n with | 0 => 1 | _ => 0)
  | .alloc _ => 1
  | .box _ _ => 1
  | .load _ _ => 1
  | .store _ _ _ => 2
  | .mapUpdate _ _ _ _ => 2
  | .call c => match c.callee with
    | .builtin .append => 2
    | .builtin .copy => 2
    | .builtin .unsafeString => 2
    | .value (.func f) => bif O.isMut f || (O.boxT f).isSome || (match O.cc with | some (f', _) => Nat.beq f' f | none => false) then 2 else bif O.isFresh f || (O.grow f).isSome || O.inl.has f then 1 else 0
    | _ => 0
  | _ => 0
def prOf : List (Ent E) → Nat → Option Nat
  | [], _ => none
  | e :: r, j => if Nat.beq e.i j then some e.pr else prOf r j
def predsOf (ents : List (Ent E)) : List Edge → Option Nat
  | [] => some 0
  | e :: r => match predsOf ents r with
    | none => none
    | some m => match Region.binds .any e with
      | false => some m
      | true => match prOf ents e.on with
        | some p => some (m ||| (p ||| 2 ^ e.on))
        | none => none
def selT (D : Nat → Bool) : List (Ent E) → List (Nat × AV E)
  | [] => []
  | e :: r => bif D e.i then putL e.dst e.x (selT D r) else selT D r
def selO (D : Nat → Bool) (objs : List (Nat × AObj E)) : List (Ent E) → List (Nat × AObj E)
  | [] => objs
  | e :: r => bif D e.i then e.eff ++ selO D objs r else selO D objs r
def effOf (nid : Nat) (r : Res E) : List (Nat × AObj E) := putO [] nid r
def clsOk (c pr : Nat) : List (Ent E) → Bool
  | [] => true
  | e :: r => (match c, e.cls with
    | 0, _ => true
    | _, 0 => true
    | 1, _ => true
    | _, _ => Nat.testBit pr e.i) && clsOk c pr r
def resOk (c : Nat) (r : Res E) : Bool := match c, r.upd, r.new with
  | 0, none, none => true
  | 0, _, _ => false
  | 1, none, _ => true
  | 1, _, _ => false
  | _, _, _ => true
def dstNew (n : Nat) (d : Option Nat) (x : AV E) (ents : List (Ent E)) : Bool := match d with
  | none => true
  | some d => Nat.blt d n && condFree d [(0, x)] && ents.all fun e => match e.dst with | some d' => !Nat.beq d' d | none => true
def allD : Nat → Bool := fun _ => true
def predsN (acc : List (Nat × Nat)) : List Edge → Nat
  | [] => 0
  | e :: r => match Region.binds .any e with
    | false => predsN acc r
    | true => match look acc e.on with
      | some p => predsN acc r ||| (p ||| 2 ^ e.on)
      | none => predsN acc r
def prGo : List Oper → Nat → List (Nat × Nat) → List (Nat × Nat)
  | [], _, acc => acc
  | o :: r, i, acc => prGo r (i + 1) ((i, predsN acc o.after.toList) :: acc)
def prTab (ops : Array Oper) : List (Nat × Nat) := prGo ops.toList 0 []
def isGuardN (l : List Oper) (j : Nat) : Bool := l.any fun o => match o.guard with | some (g, _) => Nat.beq g j | none => false
def tabBit (tab : List (Nat × Nat)) (i j : Nat) : Bool := match look tab j with
  | some p => Nat.testBit p i
  | none => false
def hideI (tab : List (Nat × Nat)) (all : List Oper) (i : Nat) : List Oper → Nat → List (Nat × AV E)
  | [], _ => []
  | o :: r, j => match tabBit tab i j && !(isGuardN all j) with
    | true => hideI tab all i r (j + 1)
    | false => putL o.dst .any (hideI tab all i r (j + 1))
def has2 : List (Ent E) → Bool
  | [] => false
  | e :: r => (match e.cls with | 0 => false | 1 => false | _ => true) || has2 r
def effIds : List (Ent E) → List Nat
  | [] => []
  | e :: r => e.eff.map (·.1) ++ effIds r
def mem1 : List Nat → Nat → Bool
  | [], _ => false
  | i :: r, j => Nat.beq i j || mem1 r j
def hideA (ids : List Nat) : List (Nat × AObj E) → List (Nat × AObj E)
  | [] => []
  | (i, o) :: r => match mem1 ids i with
    | true => hideA ids r
    | false => (i, o) :: hideA ids r
def objsAt (c pr : Nat) (objs : List (Nat × AObj E)) (ents : List (Ent E)) : List (Nat × AObj E) := match c with
  | 0 => []
  | 1 => (match has2 ents with
    | true => hideA (effIds ents) objs
    | false => selO (Nat.testBit pr) objs ents)
  | _ => selO (Nat.testBit pr) objs ents
def clsOp (O : Oracle E) (ops : Array Oper) (n : Nat) (glob : List (Nat × AV E)) (next i : Nat) (o : Oper) (pr : Nat) (ents : List (Ent E)) : Nat := match o.op with
  | .load _ _ => (match evG O ops ⟨n, selT (Nat.testBit pr) ents ++ (hideI (prTab ops) ops.toList i ops.toList 0 ++ glob), [], next + i⟩ o with
    | some r => (match resOk 0 r with | true => 0 | false => 1)
    | none => 1)
  | op => opCls O op
theorem opCls_le (O : Oracle E) (o : Op) : opCls O o = 0 ∨ opCls O o = 1 ∨ opCls O o = 2 := by
  unfold opCls
  split <;> try simp
  · split <;> simp
  · split <;> try simp
    rename_i f _
    generalize (O.isMut f || (O.boxT f).isSome || (match O.cc with | some (f', _) => Nat.beq f' f | none => false)) = b1
    generalize (O.isFresh f || (O.grow f).isSome || O.inl.has f) = b2
    cases b1 <;> cases b2 <;> simp
theorem clsOp_le {O : Oracle E} {ops : Array Oper} {n : Nat} {glob : List (Nat × AV E)} {next i : Nat} {o : Oper} {pr : Nat} {ents : List (Ent E)} : clsOp O ops n glob next i o pr ents = 0 ∨ clsOp O ops n glob next i o pr ents = 1 ∨ clsOp O ops n glob next i o pr ents = 2 := by
  unfold clsOp
  split
  · split
    · split <;> simp
    · simp
  · exact opCls_le _ _
def evDraw {R : Type} (O : Oracle E) (ops : Array Oper) (n : Nat) (glob : List (Nat × AV E)) (objs : List (Nat × AObj E)) (next : Nat) : List Oper → List (Ent E) → Nat → (ASt E → Option R) → Option R
  | [], ents, i, k => k ⟨n, unCond (selT allD ents) ++ glob, selO allD objs ents, next + i⟩
  | o :: rest, ents, i, k => match predsOf ents o.after.toList with
    | none => none
    | some pr => match clsOk (clsOp O ops n glob next i o pr ents) pr ents with
      | false => none
      | true => match evG O ops ⟨n, selT (Nat.testBit pr) ents ++ (hideI (prTab ops) ops.toList i ops.toList 0 ++ glob), (objsAt (clsOp O ops n glob next i o pr ents) pr objs ents), next + i⟩ o with
        | none => none
        | some r => match resOk (clsOp O ops n glob next i o pr ents) r && dstNew n o.dst r.v ents with
          | false => none
          | true => bif r.ok then evDraw O ops n glob objs next rest (⟨i, pr, o.dst, r.v, effOf (next + i) r, clsOp O ops n glob next i o pr ents⟩ :: ents) (i + 1) k else none
def stateOf (n : Nat) (ops : Array Oper) (glob : List (Nat × AV E)) (objs : List (Nat × AObj E)) (c pr nid i : Nat) (ents : List (Ent E)) : ASt E :=
  ⟨n, selT (Nat.testBit pr) ents ++ (hideI (prTab ops) ops.toList i ops.toList 0 ++ glob), (objsAt c pr objs ents), nid⟩
def EntOk (O : Oracle E) (ops : Array Oper) (n : Nat) (glob : List (Nat × AV E)) (objs : List (Nat × AObj E)) (next : Nat) (e : Ent E) (r : List (Ent E)) : Prop :=
  e.i = r.length ∧ ∃ o res, ops[e.i]? = some o ∧ predsOf r o.after.toList = some e.pr ∧ clsOk e.cls e.pr r = true ∧ evG O ops (stateOf n ops glob objs e.cls e.pr (next + e.i) e.i r) o = some res ∧
    resOk e.cls res = true ∧ dstNew n o.dst res.v r = true ∧ res.ok = true ∧ e.dst = o.dst ∧ e.x = res.v ∧ e.eff = effOf (next + e.i) res ∧ (e.cls = 0 ∨ e.cls = 1 ∨ e.cls = 2)
def EntsOk (O : Oracle E) (ops : Array Oper) (n : Nat) (glob : List (Nat × AV E)) (objs : List (Nat × AObj E)) (next : Nat) : List (Ent E) → Prop
  | [] => True
  | e :: r => EntsOk O ops n glob objs next r ∧ EntOk O ops n glob objs next e r
section
variable {O : Oracle E} {ops : Array Oper} {n next : Nat} {glob : List (Nat × AV E)} {objs : List (Nat × AObj E)}
theorem evDraw_ents {R : Type} {k : ASt E → Option R} {rr : R} : ∀ (rest pre : List Oper) (ents : List (Ent E)) (i : Nat), ops.toList = pre ++ rest → pre.length = i → ents.length = i → EntsOk O ops n glob objs next ents →
    evDraw O ops n glob objs next rest ents i k = some rr → ∃ L, EntsOk O ops n glob objs next L ∧ L.length = ops.size ∧ k ⟨n, unCond (selT allD L) ++ glob, selO allD objs L, next + ops.size⟩ = some rr
  | [], pre, ents, i, hl, hi, he, hok, h => by
    unfold evDraw at h
    have hs : ops.size = i := by rw [← Array.length_toList, hl, List.append_nil, hi]
    exact ⟨ents, hok, he.trans hs.symm, by rw [hs]; exact h⟩
  | o :: rest, pre, ents, i, hl, hi, he, hok, h => by
    unfold evDraw at h
    split at h
    · cases h
    · rename_i pr hpr
      split at h
      · cases h
      · rename_i hcls
        split at h
        · cases h
        · rename_i r hr
          split at h
          · cases h
          · rename_i hres
            simp only [Bool.and_eq_true] at hres
            cases hk : r.ok with
            | false => rw [hk] at h; cases h
            | true =>
              rw [hk] at h
              simp only [cond_true] at h
              have ho : ops[i]? = some o := by
                rw [← Array.getElem?_toList, hl, List.getElem?_append_right (by omega), hi, Nat.sub_self]; rfl
              exact evDraw_ents rest (pre ++ [o]) (⟨i, pr, o.dst, r.v, effOf (next + i) r, clsOp O ops n glob next i o pr ents⟩ :: ents) (i + 1) (by rw [hl]; simp) (by simp [hi]) (by simp [he])
                ⟨hok, he.symm, o, r, ho, hpr, hcls, hr, hres.1, hres.2, hk, rfl, rfl, rfl, clsOp_le⟩ h
theorem EntsOk.split {pre r : List (Ent E)} {e : Ent E} (h : EntsOk O ops n glob objs next (pre ++ e :: r)) : EntsOk O ops n glob objs next (e :: r) := by
  induction pre with
  | nil => exact h
  | cons p pre ih => exact ih h.1
theorem EntsOk.lt {L : List (Ent E)} (h : EntsOk O ops n glob objs next L) : ∀ e ∈ L, e.i < L.length := by
  induction L with
  | nil => intro e he; cases he
  | cons p r ih =>
    intro e he
    simp only [List.length_cons]
    cases he with
    | head => have := h.2.1; omega
    | tail _ he => have := ih h.1 e he; omega
theorem EntsOk.uniq {L : List (Ent E)} (h : EntsOk O ops n glob objs next L) : ∀ e ∈ L, ∀ e' ∈ L, e.i = e'.i → e = e' := by
  induction L with
  | nil => intro e he; cases he
  | cons p r ih =>
    intro e he e' he' hi
    cases he with
    | head =>
      cases he' with
      | head => rfl
      | tail _ he' => have := h.1.lt e' he'; have := h.2.1; omega
    | tail _ he =>
      cases he' with
      | head => have := h.1.lt e he; have := h.2.1; omega
      | tail _ he' => exact ih h.1 e he e' he' hi
theorem EntsOk.has {L : List (Ent E)} (h : EntsOk O ops n glob objs next L) : ∀ j, j < L.length → ∃ e ∈ L, e.i = j := by
  induction L with
  | nil => intro j hj; simp at hj
  | cons p r ih =>
    intro j hj
    simp only [List.length_cons] at hj
    by_cases hjr : j < r.length
    · obtain ⟨e, he, hi⟩ := ih h.1 j hjr
      exact ⟨e, List.mem_cons_of_mem _ he, hi⟩
    · exact ⟨p, List.mem_cons_self, by have := h.2.1; omega⟩
theorem prOf_mem : ∀ {r : List (Ent E)} {j p : Nat}, prOf r j = some p → ∃ e ∈ r, e.i = j ∧ e.pr = p
  | [], _, _, h => by cases h
  | e :: r, j, p, h => by
    unfold prOf at h
    split at h
    · rename_i hb
      cases h
      exact ⟨e, List.mem_cons_self, Nat.eq_of_beq_eq_true hb, rfl⟩
    · obtain ⟨e', he', h1, h2⟩ := prOf_mem h
      exact ⟨e', List.mem_cons_of_mem _ he', h1, h2⟩
theorem testBit_or3 (m p q j : Nat) : Nat.testBit (m ||| (p ||| 2 ^ q)) j = true ↔ (Nat.testBit m j = true ∨ Nat.testBit p j = true ∨ j = q) := by
  rw [Nat.testBit_or, Nat.testBit_or, Nat.testBit_two_pow]
  simp only [Bool.or_eq_true, decide_eq_true_eq]
  constructor
  · rintro (h | h | h)
    · exact .inl h
    · exact .inr (.inl h)
    · exact .inr (.inr h.symm)
  · rintro (h | h | h)
    · exact .inl h
    · exact .inr (.inl h)
    · exact .inr (.inr h.symm)
theorem predsOf_inv : ∀ {r : List (Ent E)} {es : List Edge} {m : Nat}, predsOf r es = some m →
    (∀ j, Nat.testBit m j = true → ∃ ed ∈ es, Region.binds .any ed = true ∧ ∃ e ∈ r, e.i = ed.on ∧ (j = ed.on ∨ Nat.testBit e.pr j = true)) ∧ (∀ ed ∈ es, Region.binds .any ed = true → Nat.testBit m ed.on = true ∧ ∃ e ∈ r, e.i = ed.on)
  | r, [], m, h => by
    cases h
    exact ⟨fun j hj => by simp at hj, fun ed h => by cases h⟩
  | r, ed :: es, m, h => by
    unfold predsOf at h
    split at h
    · cases h
    · rename_i m' hm
      obtain ⟨h1, h2⟩ := predsOf_inv hm
      split at h
      · rename_i hb
        cases h
        refine ⟨fun j hj => ?_, fun ed' hed hb' => ?_⟩
        · obtain ⟨x, hx, rest⟩ := h1 j hj
          exact ⟨x, List.mem_cons_of_mem _ hx, rest⟩
        · cases hed with
          | head => rw [hb] at hb'; cases hb'
          | tail _ hed => exact h2 ed' hed hb'
      · rename_i hb
        split at h
        · rename_i p hp
          cases h
          obtain ⟨e, he, hei, hep⟩ := prOf_mem hp
          refine ⟨fun j hj => ?_, fun ed' hed hb' => ?_⟩
          · rcases (testBit_or3 _ _ _ _).1 hj with h | h | h
            · obtain ⟨x, hx, rest⟩ := h1 j h
              exact ⟨x, List.mem_cons_of_mem _ hx, rest⟩
            · exact ⟨ed, List.mem_cons_self, hb, e, he, hei, .inr (by rw [hep]; exact h)⟩
            · exact ⟨ed, List.mem_cons_self, hb, e, he, hei, .inl h⟩
          · cases hed with
            | head => exact ⟨(testBit_or3 _ _ _ _).2 (.inr (.inr rfl)), e, he, hei⟩
            | tail _ hed =>
              obtain ⟨g1, g2⟩ := h2 ed' hed hb'
              exact ⟨(testBit_or3 _ _ _ _).2 (.inl g1), g2⟩
        · cases h
theorem dstNew_inv {d : Nat} {x : AV E} {ents : List (Ent E)} (h : dstNew n (some d) x ents = true) : d < n ∧ (∀ gs want u, x = .cond gs want u → gs ≠ d) ∧ ∀ e ∈ ents, e.dst ≠ some d := by
  unfold dstNew at h
  simp only [Bool.and_eq_true, List.all_eq_true] at h
  obtain ⟨⟨h1, h2⟩, h3⟩ := h
  refine ⟨by simpa using h1, fun gs want u e => ?_, fun e he hd => ?_⟩
  · subst e
    exact condFree_mem _ _ h2 0 gs want u List.mem_cons_self
  · have := h3 e he
    rw [hd] at this
    simp at this
theorem EntsOk.dst_uniq {L : List (Ent E)} (h : EntsOk O ops n glob objs next L) : ∀ e ∈ L, ∀ e' ∈ L, ∀ d, e.dst = some d → e'.dst = some d → e = e' := by
  induction L with
  | nil => intro e he; cases he
  | cons p r ih =>
    have key : ∀ e' ∈ r, ∀ d, p.dst = some d → e'.dst = some d → False := by
      intro e' he' d hd hd'
      obtain ⟨hi, o, res, ho, hpr, _, _, _, hdn, _, hdst, _⟩ := h.2
      rw [hdst] at hd
      rw [hd] at hdn
      exact (dstNew_inv hdn).2.2 e' he' hd'
    intro e he e' he' d hd hd'
    cases he with
    | head =>
      cases he' with
      | head => rfl
      | tail _ he' => exact (key e' he' d hd hd').elim
    | tail _ he =>
      cases he' with
      | head => exact (key e he d hd' hd).elim
      | tail _ he' => exact ih h.1 e he e' he' d hd hd'
theorem look_putL {d : Option Nat} {x y : AV E} {loc : List (Nat × AV E)} {t : Nat} (h : look (putL d x loc) t = some y) : (d = some t ∧ y = x) ∨ (d ≠ some t ∧ look loc t = some y) := by
  cases d with
  | none => exact .inr ⟨(fun e => by cases e), h⟩
  | some d =>
    simp only [putL, look_nil, look_cons] at h
    split at h
    · rename_i hb
      have := Nat.eq_of_beq_eq_true hb
      subst this
      cases h
      exact .inl ⟨rfl, rfl⟩
    · rename_i hb
      exact .inr ⟨(fun e => by cases e; simp at hb), h⟩
theorem look_selT {D : Nat → Bool} : ∀ {L : List (Ent E)} {t : Nat} {x : AV E}, look (selT D L) t = some x → ∃ e ∈ L, D e.i = true ∧ e.dst = some t ∧ x = e.x
  | [], _, _, h => by cases h
  | e :: r, t, x, h => by
    unfold selT at h
    cases hd : D e.i with
    | false =>
      rw [hd] at h
      obtain ⟨e', he', rest⟩ := look_selT h
      exact ⟨e', List.mem_cons_of_mem _ he', rest⟩
    | true =>
      rw [hd] at h
      rcases look_putL h with ⟨h1, h2⟩ | ⟨_, h⟩
      · exact ⟨e, List.mem_cons_self, hd, h1, h2⟩
      · obtain ⟨e', he', rest⟩ := look_selT h
        exact ⟨e', List.mem_cons_of_mem _ he', rest⟩
theorem look_selT_none {D : Nat → Bool} : ∀ {L : List (Ent E)} {t : Nat}, look (selT D L) t = none → ∀ e ∈ L, D e.i = true → e.dst ≠ some t
  | [], _, _, e, he, _ => by cases he
  | p :: r, t, h, e, he, hD => by
    unfold selT at h
    cases hd : D p.i with
    | false =>
      rw [hd] at h
      cases he with
      | head => rw [hd] at hD; cases hD
      | tail _ he => exact look_selT_none h e he hD
    | true =>
      rw [hd] at h
      simp only [cond_true] at h
      have h2 : p.dst ≠ some t ∧ look (selT D r) t = none := by
        cases hp : p.dst with
        | none => rw [hp] at h; exact ⟨(fun e => by cases e), h⟩
        | some d =>
          rw [hp] at h
          simp only [putL, look_nil, look_cons] at h
          split at h
          · cases h
          · rename_i hb
            exact ⟨(fun e => by cases e; simp at hb), h⟩
      cases he with
      | head => exact h2.1
      | tail _ he => exact look_selT_none h2.2 e he hD
theorem look_hideI {tab : List (Nat × Nat)} {all : List Oper} {i : Nat} : ∀ {l : List Oper} {j t : Nat} {x : AV E}, look (hideI tab all i l j) t = some x → x = .any ∧ ∃ o ∈ l, o.dst = some t
  | [], _, _, _, h => by cases h
  | o :: r, j, t, x, h => by
    unfold hideI at h
    split at h
    · obtain ⟨h1, o', ho', h2⟩ := look_hideI h
      exact ⟨h1, o', List.mem_cons_of_mem _ ho', h2⟩
    · rcases look_putL h with ⟨h1, h2⟩ | ⟨_, h⟩
      · exact ⟨h2, o, List.mem_cons_self, h1⟩
      · obtain ⟨h1, o', ho', h2⟩ := look_hideI h
        exact ⟨h1, o', List.mem_cons_of_mem _ ho', h2⟩
theorem look_hideI_none {tab : List (Nat × Nat)} {all : List Oper} {i : Nat} : ∀ {l : List Oper} {j t : Nat}, look (hideI (E := E) tab all i l j) t = none → ∀ (m : Nat) o, l[m]? = some o → o.dst = some t → tabBit tab i (j + m) = true ∧ isGuardN all (j + m) = false
  | [], _, _, _, m, o, hm, _ => by simp at hm
  | p :: r, j, t, h, m, o, hm, hd => by
    unfold hideI at h
    split at h
    · rename_i hb
      simp only [Bool.and_eq_true, Bool.not_eq_true'] at hb
      cases m with
      | zero => exact hb
      | succ m =>
        have := look_hideI_none h m o (by simpa using hm) hd
        rwa [show j + 1 + m = j + (m + 1) from by omega] at this
    · have h2 : p.dst ≠ some t ∧ look (hideI (E := E) tab all i r (j + 1)) t = none := by
        cases hp : p.dst with
        | none => rw [hp] at h; exact ⟨(fun e => by cases e), h⟩
        | some d =>
          rw [hp] at h
          simp only [putL, look_nil, look_cons] at h
          split at h
          · cases h
          · rename_i hb
            exact ⟨(fun e => by cases e; simp at hb), h⟩
      cases m with
      | zero => simp at hm; subst hm; exact absurd hd h2.1
      | succ m =>
        have := look_hideI_none h2.2 m o (by simpa using hm) hd
        rwa [show j + 1 + m = j + (m + 1) from by omega] at this
theorem prGo_app : ∀ (a b : List Oper) (i : Nat) (acc : List (Nat × Nat)), prGo (a ++ b) i acc = prGo b (i + a.length) (prGo a i acc)
  | [], b, i, acc => by simp [prGo]
  | o :: a, b, i, acc => by
    simp only [List.cons_append, prGo, List.length_cons]
    rw [prGo_app a b]
    congr 1
    omega
def entTab (L : List (Ent E)) : List (Nat × Nat) := L.map fun e => (e.i, e.pr)
theorem prOf_tab : ∀ (L : List (Ent E)) (j : Nat), prOf L j = look (entTab L) j
  | [], _ => rfl
  | e :: r, j => by
    simp only [prOf, entTab, List.map_cons, look_nil, look_cons]
    split
    · rfl
    · exact prOf_tab r j
theorem predsOf_tab (L : List (Ent E)) : ∀ (es : List Edge) (p : Nat), predsOf L es = some p → predsN (entTab L) es = p
  | [], p, h => by cases h; rfl
  | e :: r, p, h => by
    unfold predsOf at h
    unfold predsN
    split at h
    · cases h
    · rename_i m hm
      have ih := predsOf_tab L r m hm
      split at h
      · cases h; exact ih
      · rename_i hb
        split at h
        · rename_i q hq
          cases h
          rw [prOf_tab] at hq
          rw [hq]
          simp only [ih]
        · cases h
theorem ents_tab : ∀ (L : List (Ent E)), EntsOk O ops n glob objs next L → L.length ≤ ops.size → prGo (ops.toList.take L.length) 0 [] = entTab L
  | [], _, _ => rfl
  | e :: r, h, hl => by
    obtain ⟨h1, hi, o, res, ho, hpr, _⟩ := h
    have hl' : r.length < ops.size := by rw [List.length_cons] at hl; omega
    have ih := ents_tab r h1 (by omega)
    rw [hi] at ho
    have ho' : ops.toList[r.length]? = some o := by simpa using ho
    have hlt : r.length < ops.toList.length := by simpa using hl'
    rw [List.length_cons, List.take_succ_eq_append_getElem hlt, prGo_app, ih]
    have hog : ops.toList[r.length] = o := by rw [List.getElem?_eq_getElem hlt] at ho'; exact Option.some.inj ho'
    rw [hog]
    simp only [prGo, List.length_take, Nat.zero_add]
    rw [Nat.min_eq_left (by omega), predsOf_tab r _ _ hpr, ← hi]
    rfl
theorem EntsOk.tab {L : List (Ent E)} (h : EntsOk O ops n glob objs next L) (hlen : L.length = ops.size) : ∀ e ∈ L, look (prTab ops) e.i = some e.pr := by
  have ht := ents_tab L h (by omega)
  rw [hlen, List.take_of_length_le (by simp)] at ht
  unfold prTab
  rw [ht]
  have key : ∀ (M : List (Ent E)), EntsOk O ops n glob objs next M → ∀ e ∈ M, look (entTab M) e.i = some e.pr := by
    intro M
    induction M with
    | nil => intro _ e he; cases he
    | cons p r ih =>
      intro hM e he
      simp only [entTab, List.map_cons, look_nil, look_cons]
      rcases List.mem_cons.1 he with rfl | he
      · rw [if_pos (by simp)]
      · have h1 := hM.1.lt e he
        have h2 := hM.2.1
        rw [if_neg (by simp; omega)]
        exact ih hM.1 e he
  exact key L h
end
end
end
end Go.Proofs.YtiahkjjfhnfdiaaGreatDoor.Mir
namespace Go.Proofs.YtiahkjjfhnfdiaaGreatDoor.Mir
open Go Go.RowKit
noncomputable section
section
variable {P : Program} {E : Env P} {O : Oracle E} {ops : Array Oper} {n next : Nat} {glob : List (Nat × AV E)} {objs : List (Nat × AObj E)}
theorem eff_cls0 {e : Ent E} {r : List (Ent E)} (h : EntOk O ops n glob objs next e r) (hc : e.cls = 0) : e.eff = [] := by
  obtain ⟨hi, o, res, ho, hpr, _, _, hres, hdn, _, hdst, _, heff, hcls⟩ := h
  rw [hc] at hres
  rw [heff]
  cases hu : res.upd with
  | some u => simp [resOk, hu] at hres
  | none =>
    cases hn : res.new with
    | some o => simp [resOk, hu, hn] at hres
    | none => simp [effOf, putO, hu, hn]
theorem eff_cls1 {e : Ent E} {r : List (Ent E)} (h : EntOk O ops n glob objs next e r) (hc : e.cls = 1) : e.eff = [] ∨ ∃ o, e.eff = [(next + e.i, o)] := by
  obtain ⟨hi, o, res, ho, hpr, _, _, hres, hdn, _, hdst, _, heff, hcls⟩ := h
  rw [hc] at hres
  rw [heff]
  cases hu : res.upd with
  | some u => simp [resOk, hu] at hres
  | none =>
    cases hn : res.new with
    | none => left; simp [effOf, putO, hu, hn]
    | some o => right; exact ⟨o, by simp [effOf, putO, hu, hn]⟩
theorem ent_cls {e : Ent E} {r : List (Ent E)} (h : EntOk O ops n glob objs next e r) : e.cls = 0 ∨ e.cls = 1 ∨ e.cls = 2 := by
  obtain ⟨hi, o, res, ho, hpr, _, _, hres, hdn, _, hdst, _, heff, hcls⟩ := h
  exact hcls
theorem clsOk_inv : ∀ {c pr : Nat} {r : List (Ent E)}, clsOk c pr r = true → ∀ e ∈ r, c = 2 → e.cls ≠ 0 → Nat.testBit pr e.i = true
  | _, _, [], _, e, he => by cases he
  | c, pr, p :: r, h, e, he => by
    unfold clsOk at h
    simp only [Bool.and_eq_true] at h
    cases he with
    | tail _ he => exact clsOk_inv h.2 e he
    | head =>
      have h1 := h.1
      generalize hq : p.cls = q at h1
      intro hc hne
      subst hc
      match q, h1, hne with
      | 0, _, hne => exact absurd rfl hne
      | q + 1, h1, _ => simpa using h1
theorem has2_inv : ∀ {r : List (Ent E)}, has2 r = false → ∀ e ∈ r, e.cls = 0 ∨ e.cls = 1
  | [], _, e, he => by cases he
  | p :: r, h, e, he => by
    unfold has2 at h
    simp only [Bool.or_eq_false_iff] at h
    cases he with
    | tail _ he => exact has2_inv h.2 e he
    | head =>
      have h1 := h.1
      generalize p.cls = q at h1
      match q, h1 with
      | 0, _ => exact .inl rfl
      | 1, _ => exact .inr rfl
theorem mem1_true {l : List Nat} {i : Nat} (h : i ∈ l) : mem1 l i = true := by
  induction l with
  | nil => cases h
  | cons a t ih =>
    unfold mem1
    cases h with
    | head => simp
    | tail _ h => rw [ih h, Bool.or_true]
theorem look_hideA {ids : List Nat} : ∀ {l : List (Nat × AObj E)} {id : Nat} {o : AObj E}, look (hideA ids l) id = some o → look l id = some o ∧ mem1 ids id = false
  | [], _, _, h => by cases h
  | (i, x) :: r, id, o, h => by
    unfold hideA at h
    cases hm : mem1 ids i with
    | true =>
      rw [hm] at h
      obtain ⟨h1, h2⟩ := look_hideA h
      refine ⟨?_, h2⟩
      rw [look_cons]
      have hne : Nat.beq i id = false := by
        cases hb : Nat.beq i id with
        | false => rfl
        | true => have := Nat.eq_of_beq_eq_true hb; subst this; rw [hm] at h2; cases h2
      rw [hne]
      exact h1
    | false =>
      rw [hm] at h
      rw [look_cons] at h ⊢
      split at h
      · rename_i hb
        have := Nat.eq_of_beq_eq_true hb
        subst this
        exact ⟨by rw [if_pos hb]; exact h, hm⟩
      · rename_i hb
        rw [if_neg hb]
        exact look_hideA h
theorem look_none_of : ∀ {l : List (Nat × AObj E)} {id : Nat}, id ∉ l.map (·.1) → look l id = none
  | [], _, _ => rfl
  | (i, x) :: r, id, h => by
    rw [look_cons]
    rw [if_neg (fun hb => h (by have := Nat.eq_of_beq_eq_true hb; subst this; exact List.mem_cons_self))]
    exact look_none_of (fun hm => h (List.mem_cons_of_mem _ hm))
theorem effIds_mem {r : List (Ent E)} {x : Ent E} (hx : x ∈ r) {id : Nat} (h : id ∈ x.eff.map (·.1)) : id ∈ effIds r := by
  induction r with
  | nil => cases hx
  | cons p r ih =>
    unfold effIds
    cases hx with
    | head => exact List.mem_append_left _ h
    | tail _ hx => exact List.mem_append_right _ (ih hx)
theorem look_selO_skip {D : Nat → Bool} {id : Nat} {r : List (Ent E)} : ∀ {pre : List (Ent E)}, (∀ x ∈ pre, D x.i = true → look x.eff id = none) → look (selO D objs (pre ++ r)) id = look (selO D objs r) id
  | [], _ => rfl
  | p :: pre, h => by
    have ih := look_selO_skip (r := r) (pre := pre) (fun x hx => h x (List.mem_cons_of_mem _ hx))
    simp only [List.cons_append, selO]
    cases hd : D p.i with
    | false => exact ih
    | true =>
      simp only [cond_true]
      rw [look_app, h p List.mem_cons_self hd]
      exact ih
theorem EntsOk.at_ {pre r : List (Ent E)} {e : Ent E} (h : EntsOk O ops n glob objs next (pre ++ e :: r)) : EntOk O ops n glob objs next e r := h.split.2
theorem EntsOk.tail_ {L : List (Ent E)} (h : EntsOk O ops n glob objs next L) {e : Ent E} (he : e ∈ L) : ∃ pre r, L = pre ++ e :: r ∧ EntOk O ops n glob objs next e r := by
  obtain ⟨pre, r, rfl⟩ := List.append_of_mem he
  exact ⟨pre, r, rfl, h.at_⟩
theorem selO_pre {D : Nat → Bool} : ∀ {pre l : List (Ent E)}, (∀ e ∈ pre, D e.i = true → e.eff = []) → selO D objs (pre ++ l) = selO D objs l
  | [], l, _ => rfl
  | p :: pre, l, h => by
    simp only [List.cons_append, selO]
    rw [selO_pre (pre := pre) (fun e he => h e (List.mem_cons_of_mem _ he))]
    cases hd : D p.i with
    | false => rfl
    | true => rw [h p List.mem_cons_self hd]; rfl
theorem selO_congr {D D' : Nat → Bool} : ∀ {r : List (Ent E)}, (∀ e ∈ r, e.eff ≠ [] → D e.i = D' e.i) → selO D objs r = selO D' objs r
  | [], _ => rfl
  | p :: r, h => by
    simp only [selO]
    rw [selO_congr (r := r) (fun e he => h e (List.mem_cons_of_mem _ he))]
    by_cases hp : p.eff = []
    · rw [hp]; cases D p.i <;> cases D' p.i <;> rfl
    · rw [h p List.mem_cons_self hp]
theorem selO_insert {D D' : Nat → Bool} {e : Ent E} {r : List (Ent E)} : ∀ {pre : List (Ent E)} (_ : ∀ x ∈ pre, D' x.i = D x.i) (_ : ∀ x ∈ r, D' x.i = D x.i) (_ : D e.i = false) (_ : D' e.i = true)
    (_ : ∀ x ∈ pre, D x.i = true → ∀ p ∈ x.eff, ∀ q ∈ e.eff, p.1 ≠ q.1) (id : Nat), look (selO D' objs (pre ++ e :: r)) id = (match look e.eff id with | some o => some o | none => look (selO D objs (pre ++ e :: r)) id)
  | [], _, hr, he, he', _, id => by
    simp only [List.nil_append, selO, he, he', cond_true, cond_false]
    rw [selO_congr (D := D') (D' := D) (fun x hx _ => hr x hx), look_app]
    cases look e.eff id <;> rfl
  | p :: pre, hp, hr, he, he', hd, id => by
    have ih := selO_insert (D := D) (D' := D') (e := e) (r := r) (pre := pre) (fun x hx => hp x (List.mem_cons_of_mem _ hx)) hr he he' (fun x hx => hd x (List.mem_cons_of_mem _ hx)) id
    simp only [List.cons_append, selO]
    rw [hp p List.mem_cons_self]
    cases hD : D p.i with
    | false => simpa using ih
    | true =>
      simp only [cond_true]
      rw [look_app, look_app, ih]
      cases hpe : look p.eff id with
      | none => rfl
      | some o =>
        have hm := look_mem _ _ _ hpe
        cases hq : look e.eff id with
        | none => rfl
        | some q =>
          have hm' := look_mem _ _ _ hq
          exact absurd rfl (hd p List.mem_cons_self hD (id, o) hm (id, q) hm')
theorem look_simple1 {D : Nat → Bool} : ∀ {L : List (Ent E)}, (∀ e ∈ L, D e.i = true → e.eff = [] ∨ ∃ o, e.eff = [(next + e.i, o)]) → ∀ {id : Nat} {o : AObj E}, look (selO D objs L) id = some o →
    (∃ e ∈ L, D e.i = true ∧ e.eff = [(id, o)]) ∨ look objs id = some o
  | [], _, id, o, h => .inr h
  | p :: r, hs, id, o, h => by
    have ih := look_simple1 (D := D) (L := r) (fun e he => hs e (List.mem_cons_of_mem _ he)) (id := id) (o := o)
    have lift : ((∃ e ∈ r, D e.i = true ∧ e.eff = [(id, o)]) ∨ look objs id = some o) → (∃ e ∈ p :: r, D e.i = true ∧ e.eff = [(id, o)]) ∨ look objs id = some o := by
      rintro (⟨e, he, rest⟩ | h)
      · exact .inl ⟨e, List.mem_cons_of_mem _ he, rest⟩
      · exact .inr h
    simp only [selO] at h
    cases hd : D p.i with
    | false => rw [hd] at h; exact lift (ih h)
    | true =>
      rw [hd] at h
      simp only [cond_true] at h
      rcases hs p List.mem_cons_self hd with he | ⟨ob, he⟩
      · rw [he] at h; exact lift (ih h)
      · rw [he] at h
        simp only [List.cons_append, List.nil_append, look_nil, look_cons] at h
        split at h
        · rename_i hb
          have := Nat.eq_of_beq_eq_true hb
          cases h
          exact .inl ⟨p, List.mem_cons_self, hd, by rw [he, this]⟩
        · exact lift (ih h)
theorem EntsOk.pairwise {L : List (Ent E)} (h : EntsOk O ops n glob objs next L) : L.Pairwise fun e e' => e.i ≠ e'.i := by
  induction L with
  | nil => exact .nil
  | cons p r ih => exact .cons (fun e he => by have := h.1.lt e he; have := h.2.1; omega) (ih h.1)
theorem look_simple2 {D : Nat → Bool} : ∀ {L : List (Ent E)}, (∀ e ∈ L, D e.i = true → e.eff = [] ∨ ∃ o, e.eff = [(next + e.i, o)]) → L.Pairwise (fun e e' => e.i ≠ e'.i) → (∀ id o, look objs id = some o → id < next) →
    ∀ {id : Nat} {o : AObj E}, ((∃ e ∈ L, D e.i = true ∧ e.eff = [(id, o)]) ∨ look objs id = some o) → look (selO D objs L) id = some o
  | [], _, _, _, id, o, h => by
    rcases h with ⟨e, he, _⟩ | h
    · cases he
    · exact h
  | p :: r, hs, hu, hids, id, o, h => by
    cases hu with
    | cons hu1 hu2 =>
      have ih := look_simple2 (D := D) (L := r) (fun e he => hs e (List.mem_cons_of_mem _ he)) hu2 hids (id := id) (o := o)
      simp only [selO]
      have hrest : (p.eff = [(id, o)] ∧ D p.i = true) ∨ (((∃ e ∈ r, D e.i = true ∧ e.eff = [(id, o)]) ∨ look objs id = some o)) := by
        rcases h with ⟨e, he, h1, h2⟩ | h
        · cases he with
          | head => exact .inl ⟨h2, h1⟩
          | tail _ he => exact .inr (.inl ⟨e, he, h1, h2⟩)
        · exact .inr (.inr h)
      cases hd : D p.i with
      | false =>
        rcases hrest with ⟨_, h⟩ | h
        · rw [hd] at h; cases h
        · exact ih h
      | true =>
        simp only [cond_true]
        rcases hrest with ⟨h, _⟩ | h
        · rw [h]; simp [look_nil, look_cons]
        · rcases hs p List.mem_cons_self hd with he | ⟨ob, he⟩
          · rw [he]; exact ih h
          · rw [he]
            simp only [List.cons_append, List.nil_append, look_nil, look_cons]
            rw [if_neg]
            · exact ih h
            · intro hb
              have hid := Nat.eq_of_beq_eq_true hb
              rcases h with ⟨e, her, h1, h2⟩ | h
              · rcases hs e (List.mem_cons_of_mem _ her) h1 with h3 | ⟨o3, h3⟩
                · rw [h3] at h2; cases h2
                · rw [h3] at h2
                  simp only [List.cons.injEq, Prod.mk.injEq] at h2
                  exact hu1 e her (by omega)
              · have := hids id o h
                omega
theorem selO_ids {L : List (Ent E)} (hL : EntsOk O ops n glob objs next L) (hids : ∀ id o, look objs id = some o → id < next) (D : Nat → Bool) : ∀ id o, look (selO D objs L) id = some o → id < next + L.length := by
  induction L generalizing D with
  | nil => intro id o h; have := hids id o h; simp; omega
  | cons p r ih =>
    intro id o h
    simp only [selO] at h
    simp only [List.length_cons]
    cases hd : D p.i with
    | false => rw [hd] at h; have := ih hL.1 D id o h; omega
    | true =>
      rw [hd] at h
      simp only [cond_true] at h
      rw [look_app] at h
      cases hp : look p.eff id with
      | none => rw [hp] at h; have := ih hL.1 D id o h; omega
      | some q =>
        obtain ⟨hi, op, res, _, _, _, hev, _, _, _, _, _, heff, _⟩ := hL.2
        rw [heff] at hp
        rcases look_putO hp with ⟨_, h2⟩ | ⟨h1, _⟩ | ⟨h1, _⟩
        · omega
        · obtain ⟨o', h2, _⟩ := evG_upd hev h1
          simp only [stateOf, objsAt] at h2
          split at h2
          · cases h2
          · split at h2
            · have := hids id o' (look_hideA h2).1; omega
            · have := ih hL.1 _ id o' h2; omega
          · have := ih hL.1 _ id o' h2; omega
        · cases h1
theorem objsAt_lt {r : List (Ent E)} (hLr : EntsOk O ops n glob objs next r) (hids : ∀ id o, look objs id = some o → id < next) {c pr id : Nat} {o : AObj E} (h : look (objsAt c pr objs r) id = some o) : id < next + r.length := by
  unfold objsAt at h
  split at h
  · cases h
  · split at h
    · have := hids id o (look_hideA h).1; omega
    · exact selO_ids hLr hids _ id o h
  · exact selO_ids hLr hids _ id o h
theorem effOf_mem {nid : Nat} {r : Res E} {q : Nat × AObj E} (h : q ∈ effOf nid r) : q.1 = nid ∨ ∃ o, r.upd = some (q.1, o) := by
  unfold effOf putO at h
  cases hn : r.new <;> cases hu : r.upd <;> rw [hn, hu] at h <;> simp at h
  · exact .inr ⟨_, by rw [h]⟩
  · exact .inl (by rw [h])
  · rcases h with h | h
    · exact .inl (by rw [h])
    · exact .inr ⟨_, by rw [h]⟩
theorem look_state {L : List (Ent E)} (hL : EntsOk O ops n glob objs next L) {pre r : List (Ent E)} {e : Ent E} (hsplit : L = pre ++ e :: r) (he : EntOk O ops n glob objs next e r) {D : Nat → Bool} (hD : D e.i = false) (hids : ∀ id o, look objs id = some o → id < next)
    (hclosed : ∀ x ∈ L, D x.i = true → ∀ j, Nat.testBit x.pr j = true → D j = true) (hpr : ∀ j, Nat.testBit e.pr j = true → D j = true) {id : Nat} {o : AObj E} (h : look (objsAt e.cls e.pr objs r) id = some o) :
    look (selO D objs L) id = some o := by
  have he0 := he
  obtain ⟨hi, op, res, ho, hpr', hck, _, _, _, _, _, _, _, hcl⟩ := he
  have hck := clsOk_inv hck
  have hLr : EntsOk O ops n glob objs next r := by rw [hsplit] at hL; exact hL.split.1
  have hcls : e.cls ≠ 0 := fun h0 => by rw [h0] at h; cases h
  have hid : id < next + e.i := by
    rw [hi]
    unfold objsAt at h
    split at h
    · cases h
    · split at h
      · have := hids id o (look_hideA h).1; omega
      · exact selO_ids hLr hids _ id o h
    · exact selO_ids hLr hids _ id o h
  have hsub : ∀ x ∈ r, x ∈ L := fun x hx => by rw [hsplit]; exact List.mem_append_right _ (List.mem_cons_of_mem _ hx)
  have hentr1 : ∀ x ∈ L, x.cls = 0 ∨ x.cls = 1 → x.eff = [] ∨ ∃ o, x.eff = [(next + x.i, o)] := by
    intro x hx hc
    obtain ⟨p1, p2, _, hx'⟩ := hL.tail_ hx
    rcases hc with hc | hc
    · exact .inl (eff_cls0 hx' hc)
    · exact eff_cls1 hx' hc
  -- what stands behind the operation in the text and has been done touches nothing that it finds
  have hpre : ∀ x ∈ pre, D x.i = true → look x.eff id = none := by
    intro x hx hDx
    have hxL : x ∈ L := by rw [hsplit]; exact List.mem_append_left _ hx
    obtain ⟨p1, p2, rfl⟩ := List.append_of_mem hx
    have hx' : EntOk O ops n glob objs next x (p2 ++ e :: r) := by
      refine EntsOk.at_ (pre := p1) ?_
      rw [hsplit] at hL
      simpa using hL
    have hxi := hx'.1
    simp only [List.length_append, List.length_cons] at hxi
    obtain ⟨_, op', res', _, _, hck', _, _, _, _, _, _, _, hcl'⟩ := hx'
    have hck' := clsOk_inv hck' e (by simp)
    obtain ⟨_, _, _, hx''⟩ := hL.tail_ hxL
    have hsimple : x.cls = 0 ∨ x.cls = 1 → look x.eff id = none := by
      intro hc
      rcases hentr1 x hxL hc with h | ⟨o', h⟩
      · rw [h]; rfl
      · rw [h]
        exact look_none_of (by simp; omega)
    rcases ent_cls hx'' with h | h | h
    · exact hsimple (.inl h)
    · exact hsimple (.inr h)
    · have := hck' h hcls
      have := hclosed x hxL hDx e.i this
      rw [hD] at this
      cases this
  rw [hsplit, look_selO_skip hpre]
  simp only [selO, hD, cond_false]
  by_cases h2 : e.cls = 2
  · -- a writer: all that touches objects has been done ahead of it
    rw [h2] at h
    have h : look (selO (Nat.testBit e.pr) objs r) id = some o := h
    rw [selO_congr (D := D) (D' := Nat.testBit e.pr) (fun x hx hne => ?_)]
    · exact h
    · have hb := hck x hx h2 (fun hc => hne (by
        obtain ⟨p1, p2, _, hx'⟩ := hL.tail_ (hsub x hx)
        exact eff_cls0 hx' hc))
      rw [hb, hpr _ hb]
  · have h1 : e.cls = 1 := by
      rcases ent_cls he0 with h | h | h
      · exact absurd h hcls
      · exact h
      · exact absurd h h2
    rw [h1] at h
    simp only [objsAt] at h
    cases h2 : has2 r with
    | false =>
      rw [h2] at h
      have hr1 := has2_inv h2
      have hpw : r.Pairwise (fun e e' => e.i ≠ e'.i) := hLr.pairwise
      refine look_simple2 (D := D) (L := r) (fun x hx _ => hentr1 x (hsub x hx) (hr1 x hx)) hpw hids ?_
      rcases look_simple1 (D := Nat.testBit e.pr) (L := r) (fun x hx _ => hentr1 x (hsub x hx) (hr1 x hx)) h with ⟨x, hx, hb, heff⟩ | h
      · exact .inl ⟨x, hx, hpr _ hb, heff⟩
      · exact .inr h
    | true =>
      rw [h2] at h
      obtain ⟨h3, h4⟩ := look_hideA h
      have := look_selO_skip (D := D) (objs := objs) (id := id) (r := []) (pre := r) (fun x hx _ => look_none_of (fun hm => by
        rw [mem1_true (effIds_mem hx hm)] at h4
        cases h4))
      rw [List.append_nil] at this
      rw [this]
      exact h3
end
end
end Go.Proofs.YtiahkjjfhnfdiaaGreatDoor.Mir
namespace Go.Proofs.YtiahkjjfhnfdiaaGreatDoor.Mir
open Go Go.RowKit
noncomputable section
section
variable {P : Program} {E : Env P} {O : Oracle E} {ops : Array Oper} {n next : Nat} {glob : List (Nat × AV E)} {objs : List (Nat × AObj E)} {w0 : Start} {ro0 : Nat → Nat → Prop}
structure Inv (E : Env P) (w0 : Start) (ro0 : Nat → Nat → Prop) (ops : Array Oper) (n next : Nat) (glob : List (Nat × AV E)) (objs : List (Nat × AObj E)) (L : List (Ent E)) (D : Nat → Bool) (a : Act) (w : World) (ι : Nat → Option Gh) (ro : Nat → Nat → Prop) : Prop where
  base : Base w0 ro0 a w ι ro
  size : a.tmps.size = n
  slots : ∀ e ∈ L, D e.i = true → ∀ t, e.dst = some t → ∃ v, a.tmps[t]? = some v ∧ SRep E w ro ι a.tmps v e.x
  gl : ∀ t x, look glob t = some x → (∀ e ∈ L, e.dst = some t → D e.i = false) → ∃ v, a.tmps[t]? = some v ∧ SRep E w ro ι a.tmps v x
  ob : ∀ id o, look (selO D objs L) id = some o → ObjOk E w ro ι id o
  inj : Inj E (selO D objs L) ι
  fresh : ∀ id, next ≤ id → ι id ≠ none → ∃ e ∈ L, D e.i = true ∧ id = next + e.i
  closed : ∀ e ∈ L, D e.i = true → ∀ j, Nat.testBit e.pr j = true → D j = true
theorem ObjOk.notLive {w : World} {ro : Nat → Nat → Prop} {ι : Nat → Option Gh} {id : Nat} {o : AObj E} (h : o.live = false) : ObjOk E w ro ι id o := by
  cases o with
  | dead => trivial
  | box cs => cases h
  | tail l => intro hl; simp only [AObj.live] at h; rw [h] at hl; cases hl
  | row t l => cases h
  | mp _ _ _ => cases h
  | lp _ _ _ _ _ _ _ => cases h
  | dfr => cases h
  | arr _ _ _ => cases h
theorem ObjOk.ghost {w : World} {ro : Nat → Nat → Prop} {ι : Nat → Option Gh} {id : Nat} {o : AObj E} (h : ObjOk E w ro ι id o) (hl : o.live = true) : ι id ≠ none := by
  cases o with
  | dead => cases hl
  | box cs => obtain ⟨gh, _, _, _, hi, _⟩ := h; rw [hi]; simp
  | tail l => obtain ⟨gh, _, hi, _⟩ := h hl; rw [hi]; simp
  | row t l => obtain ⟨gh, _, hi, _⟩ := h; rw [hi]; simp
  | mp _ _ _ => obtain ⟨gh, _, _, hi, _⟩ := h; rw [hi]; simp
  | lp _ _ _ _ _ _ _ => obtain ⟨gh, _, _, hi, _⟩ := h; rw [hi]; simp
  | dfr => obtain ⟨gh, _, hi, _⟩ := h; rw [hi]; simp
  | arr _ _ _ => obtain ⟨_, gh, _, _, _, hi, _⟩ := h; rw [hi]; simp
theorem cond_guard {e : Ent E} {r : List (Ent E)} (he : EntOk O ops n glob objs next e r) {gs : Nat} {want : Bool} {u : AV E} (hx : e.x = .cond gs want u) : ∃ g ∈ r, Nat.testBit e.pr g.i = true ∧ g.dst = some gs := by
  obtain ⟨hi, o, res, ho, hpr, _, hev, _, _, _, _, hex, _⟩ := he
  rw [hex] at hx
  unfold evG at hev
  split at hev
  · -- without a guard no value hangs on one
    have h2 := (evG_plain hev).2
    rw [hx] at h2
    cases h2
  · rename_i j want' hg
    split at hev
    · cases hev
    · rename_i gs' hgs
      split at hev
      · cases hev
      · rename_i b asm hguard
        split at hev
        · cases hev
          cases hx
          -- the guard's slot is known, so its operation is among those that came before
          have hl : ∃ y, look (stateOf n ops glob objs e.cls e.pr (next + e.i) e.i r).tmps gs = some y ∧ y ≠ .any := by
            unfold guardOf at hguard
            split at hguard
            · rename_i b0 hb; exact ⟨_, hb, by simp⟩
            · rename_i j0 w0 b0 hb; exact ⟨_, hb, by simp⟩
            · cases hguard
          obtain ⟨y, hy, hne⟩ := hl
          simp only [stateOf] at hy
          rw [look_app] at hy
          cases hs : look (selT (Nat.testBit e.pr) r) gs with
          | some z =>
            obtain ⟨g, hg1, hg2, hg3, _⟩ := look_selT hs
            exact ⟨g, hg1, hg2, hg3⟩
          | none =>
            rw [hs, look_app] at hy
            simp only at hy
            cases hh : look (hideI (E := E) (prTab ops) ops.toList e.i ops.toList 0) gs with
            | some z =>
              rw [hh] at hy
              cases hy
              exact absurd (look_hideI hh).1 hne
            | none =>
              exfalso
              unfold dstOf at hgs
              cases hj : ops[j]? with
              | none => rw [hj] at hgs; cases hgs
              | some oj =>
                rw [hj] at hgs
                have h1 := (look_hideI_none hh j oj (by simpa using hj) (by simpa using hgs)).2
                rw [Nat.zero_add] at h1
                have h2 : isGuardN ops.toList j = true := by
                  unfold isGuardN
                  rw [List.any_eq_true]
                  exact ⟨o, Array.mem_toList_iff.2 (Array.mem_of_getElem? ho), by rw [hg]; simp⟩
                rw [h2] at h1
                cases h1
        · cases hev
theorem ops_rng {L : List (Ent E)} (hL : EntsOk O ops n glob objs next L) (hlen : L.length = ops.size) : ∀ o ∈ ops.toList, ∃ e ∈ L, e.dst = o.dst ∧ ∀ t, o.dst = some t → t < n := by
  intro o ho
  obtain ⟨j, hj⟩ := List.getElem?_of_mem ho
  have hj' : ops[j]? = some o := by simpa using hj
  have hlt : j < ops.size := (Array.getElem?_eq_some_iff.1 hj').1
  obtain ⟨e, he, hei⟩ := hL.has j (by omega)
  obtain ⟨pre, r, _, hi, op, res, hop, _, _, _, _, hdn, _, hdst, _⟩ := hL.tail_ he
  rw [hei, hj'] at hop
  cases hop
  refine ⟨e, he, hdst, fun t ht => ?_⟩
  rw [ht] at hdn
  exact (dstNew_inv hdn).1
theorem inv_step (hO : OracleOk E O) {L : List (Ent E)} (hL : EntsOk O ops n glob objs next L) (hlen : L.length = ops.size) (hnc : NoCond glob) (hids : ∀ id o, look objs id = some o → id < next) {D D' : Nat → Bool} {a : Act} {w : World} {ι : Nat → Option Gh} {ro : Nat → Nat → Prop}
    (hinv : Inv E w0 ro0 ops n next glob objs L D a w ι ro) {e : Ent E} (heL : e ∈ L) (hDe : D e.i = false) {o : Oper} (ho : ops[e.i]? = some o) (hready : ∀ ed ∈ o.after.toList, Region.binds .any ed = true → D ed.on = true)
    (hD' : ∀ j, D' j = true ↔ (D j = true ∨ j = e.i)) {K : Act → World → Prop} {Q : Exit → Act → World → Prop} (hK : ∀ a' w' ι' ro', Inv E w0 ro0 ops n next glob objs L D' a' w' ι' ro' → K a' w') :
    if Region.wanted o (yielded ops a.tmps) = true then o.wp P a w K Q else K (a.put o.dst undef) w := by
  obtain ⟨pre, r, hsplit, hent⟩ := hL.tail_ heL
  have hent' := hent
  obtain ⟨hi, o', res, ho', hpr, hck, hev, hres, hdn, hok, hdst, hex, heff, hcls⟩ := hent
  rw [ho] at ho'
  cases ho'
  have hrL : ∀ x ∈ r, x ∈ L := fun x hx => by rw [hsplit]; exact List.mem_append_right _ (List.mem_cons_of_mem _ hx)
  -- what came before has been done
  have hprD : ∀ j, Nat.testBit e.pr j = true → D j = true := by
    intro j hj
    obtain ⟨ed, hed, hb, x, hx, hxi, hj'⟩ := (predsOf_inv hpr).1 j hj
    have hDx : D ed.on = true := hready ed hed hb
    rcases hj' with rfl | hj'
    · exact hDx
    · exact hinv.closed x (hrL x hx) (by rw [hxi]; exact hDx) j hj'
  have hfresh : ι (next + e.i) = none := by
    cases hgh : ι (next + e.i) with
    | none => rfl
    | some gh =>
      exfalso
      obtain ⟨x, hx, hDx, hid⟩ := hinv.fresh (next + e.i) (by omega) (by rw [hgh]; simp)
      have := hL.uniq e heL x hx (by omega)
      subst this
      rw [hDe] at hDx
      cases hDx
  have hobjs : ∀ id ob, look (stateOf n ops glob objs e.cls e.pr (next + e.i) e.i r).objs id = some ob → look (selO D objs L) id = some ob := by
    intro id ob hl
    simp only [stateOf] at hl
    exact look_state hL hsplit hent' hDe hids hinv.closed hprD hl
  have htm : TmOk E w ro ι a (stateOf n ops glob objs e.cls e.pr (next + e.i) e.i r).tmps := by
    intro t x hl
    simp only [stateOf] at hl
    rw [look_app] at hl
    cases hs : look (selT (Nat.testBit e.pr) r) t with
    | some z =>
      rw [hs] at hl
      cases hl
      obtain ⟨g, hg1, hg2, hg3, hg4⟩ := look_selT hs
      rw [hg4]
      exact hinv.slots g (hrL g hg1) (hprD _ hg2) t hg3
    | none =>
      rw [hs, look_app] at hl
      simp only at hl
      cases hh : look (hideI (E := E) (prTab ops) ops.toList e.i ops.toList 0) t with
      | some z =>
        rw [hh] at hl
        cases hl
        obtain ⟨hz, op, hop, hopd⟩ := look_hideI hh
        subst hz
        obtain ⟨_, _, _, hlt⟩ := ops_rng hL hlen op hop
        have hlt := hlt t hopd
        have hsz : t < a.tmps.size := by rw [hinv.size]; exact hlt
        exact ⟨a.tmps[t], Array.getElem?_eq_getElem hsz, .any _⟩
      | none =>
        rw [hh] at hl
        refine hinv.gl t x hl fun x' hx' hd' => ?_
        obtain ⟨p1, p2, hsp', hx2⟩ := hL.tail_ hx'
        obtain ⟨_, op, _, hop, _, _, _, _, _, _, hdd, _⟩ := hx2
        have h1 := (look_hideI_none hh x'.i op (by simpa using hop) (by rw [← hdd]; exact hd')).1
        rw [Nat.zero_add] at h1
        unfold tabBit at h1
        rw [hL.tab hlen x' hx'] at h1
        cases hDx : D x'.i with
        | false => rfl
        | true =>
          have := hinv.closed x' hx' hDx e.i h1
          rw [hDe] at this
          cases this
  refine evG_sound (S := stateOf n ops glob objs e.cls e.pr (next + e.i) e.i r) hinv.base.rolt htm (fun id ob hl => hinv.ob id ob (hobjs id ob hl)) hfresh hO hev hok fun val w' ι' ro' hp hslot => ?_
  have hupd : ∀ id ob, res.upd = some (id, ob) → ∃ o', look (selO D objs L) id = some o' ∧ o'.live = true := by
    intro id ob hu
    obtain ⟨o', h1, h2⟩ := evG_upd hev hu
    exact ⟨o', hobjs id o' h1, h2⟩
  have hilt : ∀ id gh k, ι id = some gh → gh.blk = some k → k < w.heap.size := fun id gh k h1 h2 => (hinv.base.ilt id gh k h1 h2).2
  have hext := hp.ext hfresh
  have hD'pre : ∀ x ∈ L, x.i ≠ e.i → D' x.i = D x.i := by
    intro x _ hne
    cases hd : D x.i with
    | true => exact (hD' x.i).2 (.inl hd)
    | false =>
      cases hd' : D' x.i with
      | false => rfl
      | true =>
        rcases (hD' x.i).1 hd' with h | h
        · rw [hd] at h; cases h
        · exact absurd h hne
  have hlive : ∀ id ob, look (selO D objs L) id = some ob → ob.live = true → id ≠ next + e.i := by
    intro id ob hl hlv he
    subst he
    exact (hinv.ob _ ob hl).ghost hlv hfresh
  have hneL : ∀ x ∈ L, x ≠ e → x.i ≠ e.i := fun x hx hne hi => hne (hL.uniq x hx e heL hi)
  have hpreI : ∀ x ∈ pre, x.i ≠ e.i := by
    intro x hx
    have hp' := hL.pairwise
    rw [hsplit, List.pairwise_append] at hp'
    exact hp'.2.2 x hx e List.mem_cons_self
  have hrI : ∀ x ∈ r, x.i ≠ e.i := by
    intro x hx
    have hp' := hL.pairwise
    rw [hsplit, List.pairwise_append] at hp'
    cases hp'.2.1 with
    | cons h1 _ => exact fun h => h1 x hx h.symm
  -- the objects behind the operation
  have hlook : ∀ id ob, look (selO D' objs L) id = some ob → look e.eff id = some ob ∨ (look e.eff id = none ∧ look (selO D objs L) id = some ob) := by
    intro id ob hl
    rw [hsplit] at hl
    rw [selO_insert (D := D) (D' := D') (e := e) (r := r) (pre := pre) (fun x hx => hD'pre x (by rw [hsplit]; exact List.mem_append_left _ hx) (hpreI x hx)) (fun x hx => hD'pre x (hrL x hx) (hrI x hx)) hDe ((hD' e.i).2 (.inr rfl)) ?_ id] at hl
    · rw [← hsplit] at hl
      cases hq : look e.eff id with
      | none => rw [hq] at hl; exact .inr ⟨rfl, hl⟩
      | some q => rw [hq] at hl; cases hl; exact .inl rfl
    · -- no object is touched twice out of the text's order
      intro x hx hDx p hp q hq heq
      have hxL : x ∈ L := by rw [hsplit]; exact List.mem_append_left _ hx
      obtain ⟨p1, p2, hsp, hx'⟩ := hL.tail_ hxL
      have hcl0 : e.cls ≠ 0 := by
        intro h0
        rw [eff_cls0 hent' h0] at hq
        cases hq
      -- x stands behind e in the text
      have hex2 : e ∈ p2 := by
        have h1 : e ∈ p1 ++ x :: p2 := by rw [← hsp]; exact heL
        have hxe : x.i > e.i := by
          obtain ⟨q1, q2, rfl⟩ := List.append_of_mem hx
          have hxx : EntOk O ops n glob objs next x (q2 ++ e :: r) := by
            refine EntsOk.at_ (pre := q1) ?_
            rw [hsplit] at hL
            simpa using hL
          have := hxx.1
          simp only [List.length_append, List.length_cons] at this
          omega
        rcases List.mem_append.1 h1 with h | h
        · exfalso
          obtain ⟨q1, q2, rfl⟩ := List.append_of_mem h
          have hee : EntOk O ops n glob objs next e (q2 ++ x :: p2) := by
            refine EntsOk.at_ (pre := q1) ?_
            rw [hsp] at hL
            simpa using hL
          have h2 := hee.1
          have h3 := hx'.1
          simp only [List.length_append, List.length_cons] at h2
          omega
        · cases h with
          | head => exact absurd rfl (hpreI _ hx)
          | tail _ h => exact h
      have hgt : e.i < x.i := by
        obtain ⟨q1, q2, hq⟩ := List.append_of_mem hex2
        have h1 : EntsOk O ops n glob objs next p2 := by rw [hsp] at hL; exact hL.split.1
        rw [hq] at h1
        have h2 := h1.at_.1
        have h3 := hx'.1
        rw [hq] at h3
        simp only [List.length_append, List.length_cons] at h3
        omega
      obtain ⟨_, opx, _, _, _, hckx, _, _, _, _, _, _, _, hclx⟩ := hx'
      have hckx := clsOk_inv hckx e hex2
      obtain ⟨_, _, _, hx''⟩ := hL.tail_ hxL
      rcases ent_cls hx'' with h | h | h
      · rw [eff_cls0 hx'' h] at hp; cases hp
      · rcases eff_cls1 hx'' h with h1 | ⟨o1, h1⟩
        · rw [h1] at hp; cases hp
        · rw [h1] at hp
          simp only [List.mem_singleton] at hp
          have hxe2 := hpreI x hx
          have hpq : p.1 = next + x.i := by rw [hp]
          rw [heff] at hq
          rcases effOf_mem hq with hq1 | ⟨o1, hq1⟩
          · omega
          · obtain ⟨o2, hq2, _⟩ := evG_upd hev hq1
            simp only [stateOf] at hq2
            have := objsAt_lt (by rw [hsplit] at hL; exact hL.split.1) hids hq2
            have := hent'.1
            omega
      · have := hinv.closed x hxL hDx e.i (hckx h hcl0)
        rw [hDe] at this
        cases this
  have heffl : ∀ id ob, look e.eff id = some ob → (res.new = some ob ∧ id = next + e.i) ∨ res.upd = some (id, ob) := by
    intro id ob hl
    rw [heff] at hl
    rcases look_putO hl with h | ⟨h, _⟩ | ⟨h, _⟩
    · exact .inl h
    · exact .inr h
    · cases h
  have heffn : ∀ id, look e.eff id = none → (∀ ob, res.upd ≠ some (id, ob)) ∧ (id = next + e.i → res.new = none) := by
    intro id hl
    rw [heff] at hl
    unfold effOf putO at hl
    refine ⟨fun ob hu => ?_, fun hid => ?_⟩
    · rw [hu] at hl
      cases hn : res.new <;> rw [hn] at hl <;> simp [look_nil, look_cons] at hl <;> (split at hl <;> cases hl)
    · cases hn : res.new with
      | none => rfl
      | some q => rw [hn, hid] at hl; simp [look_nil, look_cons] at hl
  refine hK _ w' ι' ro' {
    base := hinv.base.step hp hfresh o.dst
    size := put_size.trans hinv.size
    slots := fun x hx hDx t ht => ?_
    gl := fun t x hl hno => ?_
    ob := fun id ob hl => ?_
    inj := ?_
    fresh := fun id hid hgh => ?_
    closed := fun x hx hDx j hj => ?_ }
  · -- the slots
    by_cases hxe : x = e
    · subst hxe
      rw [hdst] at ht
      rw [ht] at hdn
      obtain ⟨hlt, hgs, hnew⟩ := dstNew_inv hdn
      have hsz : t < a.tmps.size := by rw [hinv.size]; exact hlt
      refine ⟨val, by rw [ht]; simp [Act.put, hsz], ?_⟩
      rw [hex]
      refine hslot _ fun gs want u hc => ?_
      rw [ht]
      exact put_get (fun h => by cases h; exact hgs _ _ _ hc rfl)
    · have hDx' : D x.i = true := by
        rcases (hD' x.i).1 hDx with h | h
        · exact h
        · exact absurd h (hneL x hx hxe)
      obtain ⟨v, hv, hs⟩ := hinv.slots x hx hDx' t ht
      have hdne : o.dst ≠ some t := fun h => hxe (hL.dst_uniq x hx e heL t ht (by rw [hdst]; exact h))
      refine ⟨v, (put_get hdne).trans hv, (hs.mono hp.mono hp.cell hext).tm fun gs want u hc => ?_⟩
      obtain ⟨p1, p2, hsp, hx'⟩ := hL.tail_ hx
      obtain ⟨g, hg, hgb, hgd⟩ := cond_guard hx' hc
      refine put_get fun h => ?_
      have hgL : g ∈ L := by rw [hsp]; exact List.mem_append_right _ (List.mem_cons_of_mem _ hg)
      have hge := hL.dst_uniq g hgL e heL gs hgd (by rw [hdst]; exact h)
      subst hge
      have := hinv.closed x hx hDx' g.i hgb
      rw [hDe] at this
      cases this
  · -- the rest of the frame
    obtain ⟨v, hv, hs⟩ := hinv.gl t x hl fun x' hx' hd' => by
      cases hDx : D x'.i with
      | false => rfl
      | true =>
        have h1 := hno x' hx' hd'
        rw [(hD' x'.i).2 (.inl hDx)] at h1
        cases h1
    have hdne : o.dst ≠ some t := fun hd => by
      have h1 := hno e heL (by rw [hdst]; exact hd)
      rw [(hD' e.i).2 (.inr rfl)] at h1
      cases h1
    refine ⟨v, (put_get hdne).trans hv, (hs.mono hp.mono hp.cell hext).tm fun gs want u hc => ?_⟩
    have := hnc _ (look_mem _ _ _ hl)
    rw [hc] at this
    cases this
  · -- the objects
    rcases hlook id ob hl with h | ⟨h, h'⟩
    · rcases heffl id ob h with ⟨h1, h2⟩ | h
      · subst h2; exact hp.new ob h1
      · exact hp.upd id ob h
    · cases hlv : ob.live with
      | false => exact .notLive hlv
      | true => exact ObjOk.step hp hfresh hinv.inj hupd hilt h' (hlive id ob h' hlv) (heffn id h).1 (hinv.ob id ob h')
  · refine inj_step hp hinv.inj hupd hilt hlive _ fun id ob hl => ?_
    rcases hlook id ob hl with h | ⟨h, h'⟩
    · rcases heffl id ob h with h | h
      · exact .inl h
      · exact .inr (.inl h)
    · exact .inr (.inr ⟨h', (heffn id h).1⟩)
  · by_cases hne : id = next + e.i
    · exact ⟨e, heL, (hD' e.i).2 (.inr rfl), hne⟩
    · rw [hp.iold id hne] at hgh
      obtain ⟨x, hx, hDx, h⟩ := hinv.fresh id hid hgh
      exact ⟨x, hx, (hD' x.i).2 (.inl hDx), h⟩
  · by_cases hxe : x = e
    · subst hxe; exact (hD' j).2 (.inl (hprD j hj))
    · have hDx' : D x.i = true := by
        rcases (hD' x.i).1 hDx with h | h
        · exact h
        · exact absurd h (hneL x hx hxe)
      exact (hD' j).2 (.inl (hinv.closed x hx hDx' j hj))
theorem ready_iff (listed : Array Bool) (i : Nat) : i ∈ Region.ready .any ops listed ↔ i < ops.size ∧ listed.getD i true = false ∧ ∃ o, ops[i]? = some o ∧ ∀ ed ∈ o.after.toList, Region.binds .any ed = true → listed.getD ed.on false = true := by
  unfold Region.ready
  simp only [List.mem_filter, List.mem_range, Bool.and_eq_true, Bool.not_eq_true']
  constructor
  · rintro ⟨h1, h2, h3⟩
    refine ⟨h1, h2, ?_⟩
    rw [Array.getElem?_eq_getElem h1] at h3 ⊢
    refine ⟨_, rfl, fun ed hed hb => ?_⟩
    simp only [Option.map_some, Option.getD_some, Array.all_eq_true_iff_forall_mem] at h3
    have := h3 ed (Array.mem_toList_iff.1 hed)
    rw [hb] at this
    simpa using this
  · rintro ⟨h1, h2, o, ho, h3⟩
    refine ⟨h1, h2, ?_⟩
    rw [ho]
    simp only [Option.map_some, Option.getD_some, Array.all_eq_true_iff_forall_mem]
    intro ed hed
    cases hb : Region.binds .any ed with
    | false => rfl
    | true => simpa using h3 ed (Array.mem_toList_iff.2 hed) hb
theorem getD_set (listed : Array Bool) {i j : Nat} (hi : i < listed.size) : (listed.setIfInBounds i true).getD j false = true ↔ (listed.getD j false = true ∨ j = i) := by
  simp only [Array.getD_eq_getD_getElem?, Array.getElem?_setIfInBounds]
  by_cases h : i = j
  · subst h; simp [hi]
  · rw [if_neg h]
    simp
    exact fun e => absurd e.symm h
theorem evDraw_any {R : Type} (hO : OracleOk E O) {a : Act} {w : World} {ι : Nat → Option Gh} {ro : Nat → Nat → Prop} (hnc : NoCond glob) (hg : Gam E w0 ro0 ⟨n, glob, objs, next⟩ a w ι ro) {k : ASt E → Option R} {rr : R} {Q : Exit → Act → World → Prop}
    (hk : ∀ S' a' w' ι' ro', NoCond S'.tmps → Gam E w0 ro0 S' a' w' ι' ro' → S'.n = n → k S' = some rr → Q .normal a' w') (h : evDraw O ops n glob objs next ops.toList [] 0 k = some rr) : wpAny P .any ops Q ops.size (Array.replicate ops.size false) a { w with drawn := w.drawn + 1 } := by
  obtain ⟨L, hL, hlen, hkL⟩ := evDraw_ents (ops := ops) ops.toList [] [] 0 (by simp) rfl rfl trivial h
  have hids : ∀ id o, look objs id = some o → id < next := hg.ids
  have done : ∀ (listed : Array Bool) (a : Act) (w : World) (ι : Nat → Option Gh) (ro : Nat → Nat → Prop), listed.size = ops.size → Inv E w0 ro0 ops n next glob objs L (fun j => listed.getD j false) a w ι ro → Region.ready .any ops listed = [] → Q .normal a w := by
    intro listed a w ι ro hsz hinv hready
    -- all is done
    have hall : ∀ j, j < ops.size → listed.getD j false = true := by
      intro j
      induction j using Nat.strongRecOn with
      | ind j ih =>
        intro hj
        cases hd : listed.getD j false with
        | true => rfl
        | false =>
          exfalso
          obtain ⟨e, he, hei⟩ := hL.has j (by omega)
          obtain ⟨pre, r, hsp, hent⟩ := hL.tail_ he
          obtain ⟨hi, o, res, ho, hpr, _⟩ := hent
          rw [hei] at ho
          have hmem : j ∈ Region.ready .any ops listed := (ready_iff listed j).2 ⟨hj, by
            simp only [Array.getD_eq_getD_getElem?] at hd ⊢
            rw [Array.getElem?_eq_getElem (by omega)] at hd ⊢
            simpa using hd, o, ho, fun ed hed hb => by
              have hlt : ed.on < j := by
                obtain ⟨x, hx, hxi⟩ := ((predsOf_inv hpr).2 ed hed hb).2
                obtain ⟨q1, q2, rfl⟩ := List.append_of_mem hx
                have hx' : EntOk O ops n glob objs next x q2 := by
                  refine EntsOk.at_ (pre := pre ++ e :: q1) ?_
                  rw [hsp] at hL
                  simpa using hL
                have h1 := hx'.1
                simp only [List.length_append, List.length_cons] at hi
                omega
              exact ih ed.on hlt (by omega)⟩
          rw [hready] at hmem
          cases hmem
    have hDall : ∀ e ∈ L, (fun j => listed.getD j false) e.i = allD e.i := fun e he => hall e.i (by have := hL.lt e he; omega)
    have hselO : selO (fun j => listed.getD j false) objs L = selO allD objs L := selO_congr (fun e he _ => hDall e he)
    have hobj := hinv.ob
    have hinj := hinv.inj
    rw [hselO] at hobj hinj
    refine hk ⟨n, unCond (selT allD L) ++ glob, selO allD objs L, next + ops.size⟩ a w ι ro (fun p hp => ?_) ⟨hinv.base, hinv.size, TmOk.clean (loc := selT allD L) (glob := glob) fun t x hl => ?_, hobj, hinj, fun id hid => ?_, fun id o hl => ?_⟩ rfl hkL
    · rcases List.mem_append.1 hp with hp | hp
      · exact noCond_unCond _ p hp
      · exact hnc p hp
    · rw [look_app] at hl
      cases hs : look (selT allD L) t with
      | some z =>
        rw [hs] at hl
        cases hl
        obtain ⟨g, hg1, _, hg3, hg4⟩ := look_selT hs
        rw [hg4]
        exact hinv.slots g hg1 (hDall g hg1) t hg3
      | none =>
        rw [hs] at hl
        exact hinv.gl t x hl fun e he hd => absurd hd (look_selT_none hs e he rfl)
    · cases hgh : ι id with
      | none => rfl
      | some gh =>
        exfalso
        have hid' : next + ops.size ≤ id := hid
        obtain ⟨e, he, _, h⟩ := hinv.fresh id (by omega) (by rw [hgh]; simp)
        have := hL.lt e he
        omega
    · have := selO_ids hL hids allD id o hl
      show id < next + ops.size
      omega
  have key : ∀ (fuel : Nat) (listed : Array Bool) (a : Act) (w : World) (ι : Nat → Option Gh) (ro : Nat → Nat → Prop), listed.size = ops.size → (listed.toList.count false ≤ fuel) → Inv E w0 ro0 ops n next glob objs L (fun j => listed.getD j false) a w ι ro → wpAny P .any ops Q fuel listed a w := by
    intro fuel
    induction fuel with
    | zero =>
      intro listed a w ι ro hsz hcount hinv
      have hr : Region.ready .any ops listed = [] := by
        rw [List.eq_nil_iff_forall_not_mem]
        intro i hi
        obtain ⟨h1, h2, _⟩ := (ready_iff listed i).1 hi
        have hmem : false ∈ listed.toList := by
          simp only [Array.getD_eq_getD_getElem?] at h2
          rw [Array.getElem?_eq_getElem (by omega)] at h2
          simp at h2
          rw [← h2]
          exact Array.mem_toList_iff.2 (Array.getElem_mem _)
        have := List.count_pos_iff.2 hmem
        omega
      exact ⟨hr, done listed a w ι ro hsz hinv hr⟩
    | succ fuel ih =>
      intro listed a w ι ro hsz hcount hinv
      refine ⟨fun hr => done listed a w ι ro hsz hinv hr, fun i hi => ?_⟩
      obtain ⟨h1, h2, o, ho, h3⟩ := (ready_iff listed i).1 hi
      obtain ⟨e, he, hei⟩ := hL.has i (by omega)
      subst hei
      have hDe : listed.getD e.i false = false := by
        simp only [Array.getD_eq_getD_getElem?] at h2 ⊢
        rw [Array.getElem?_eq_getElem (by omega)] at h2 ⊢
        simpa using h2
      have hst := inv_step (K := fun a' w' => wpAny P .any ops Q fuel (listed.setIfInBounds e.i true) a' w') (Q := Q) hO hL hlen hnc hids hinv he hDe ho h3 (D' := fun j => (listed.setIfInBounds e.i true).getD j false) (fun j => getD_set listed (by omega))
        (fun a' w' ι' ro' hinv' => ih _ a' w' ι' ro' (by simp [hsz]) ?_ hinv')
      · unfold wpOp
        rw [ho]
        show if Region.wanted o (yielded ops a.tmps) = true then _ else _
        split
        · rename_i hw; rw [if_pos hw] at hst; exact .inl hst
        · rename_i hw; rw [if_neg hw] at hst; exact hst
      · have hlt : e.i < listed.toList.length := by rw [Array.length_toList, hsz]; exact h1
        have hget : listed.toList[e.i] = false := by
          simp only [Array.getD_eq_getD_getElem?] at hDe
          rw [Array.getElem?_eq_getElem (by omega)] at hDe
          simpa using hDe
        have hc : (listed.toList.set e.i true).count false + 1 = listed.toList.count false := by
          rw [List.count_set hlt, hget]
          have : 0 < listed.toList.count false := List.count_pos_iff.2 (by rw [← hget]; exact List.getElem_mem _)
          have e1 : (if (false == false) = true then 1 else 0) = 1 := rfl
          have e2 : (if (true == false) = true then 1 else 0) = 0 := rfl
          rw [e1, e2]
          omega
        rw [Array.toList_setIfInBounds]
        omega
  refine key ops.size _ a _ ι ro (by simp) ?_ ?_
  · simp
  · have hfalse : ∀ j, (Array.replicate ops.size false).getD j false = false := by
      intro j
      simp only [Array.getD_eq_getD_getElem?, Array.getElem?_replicate]
      split <;> rfl
    have hselO : selO (fun j => (Array.replicate ops.size false).getD j false) objs L = objs := by
      have : selO (fun j => (Array.replicate ops.size false).getD j false) objs (L ++ []) = selO (fun j => (Array.replicate ops.size false).getD j false) objs [] := selO_pre (fun e _ hD => by simp only [hfalse] at hD; cases hD)
      rw [List.append_nil] at this
      exact this
    have drew : ∀ (v : Value) (x : AV E), SRep E w ro ι a.tmps v x → SRep E { w with drawn := w.drawn + 1 } ro ι a.tmps v x := fun v x h => SRep.mono (w := w) (ι := ι) (ro := ro) (fun _ _ h => h) (fun _ _ _ => rfl) (fun _ _ h => h) h
    refine {
      base := ⟨⟨hg.base.below.os, hg.base.below.tape, hg.base.below.output, hg.base.below.size, hg.base.below.block⟩, hg.base.rolt, hg.base.ronew, hg.base.ilt, hg.base.defers, hg.base.keep, hg.base.held⟩
      size := hg.size
      slots := fun e _ hD => by simp only [hfalse] at hD; cases hD
      gl := fun t x hl _ => by obtain ⟨v, hv, hs⟩ := hg.tmps t x hl; exact ⟨v, hv, drew v x hs⟩
      ob := fun id o hl => ?_
      inj := by rw [hselO]; exact hg.inj
      fresh := fun id hid hgh => absurd (hg.fresh id hid) hgh
      closed := fun e _ hD => by simp only [hfalse] at hD; cases hD }
    rw [hselO] at hl
    have := hg.objs id o hl
    cases o with
    | dead => trivial
    | box cs =>
      obtain ⟨gh, g, vs, ty, h1, h2, hb, h3, h4, h5, h6⟩ := this
      exact ⟨gh, g, vs, ty, h1, h2, hb, h3, h4, fun j v c hv hc => ⟨(h5 j v c hv hc).1, Rep.mono (w := w) (ι := ι) (ro := ro) (fun _ _ h => h) (fun _ _ _ => rfl) (fun _ _ h => h) (h5 j v c hv hc).2⟩, h6⟩
    | tail l => exact this
    | dfr => exact this
    | arr t l fz =>
      obtain ⟨h0, gh, g, vs, ty, h1, h2, hb, h3, h4, h5, h6⟩ := this
      exact ⟨h0, gh, g, vs, ty, h1, h2, hb, h3, h4, fun j v c hv hc => ⟨(h5 j v c hv hc).1, Rep.mono (w := w) (ι := ι) (ro := ro) (fun _ _ h => h) (fun _ _ _ => rfl) (fun _ _ h => h) (h5 j v c hv hc).2⟩, h6⟩
    | lp st pend n tm ps assign body =>
      obtain ⟨gh, g, rec, h1, h2, h3, h4, h5⟩ := this
      exact ⟨gh, g, rec, h1, h2, h3, h4, fun t x hl => by
        obtain ⟨v, q1, q2⟩ := h5 t x hl
        exact ⟨v, q1, Rep.mono (w := w) (ι := ι) (ro := ro) (fun _ _ h => h) (fun _ _ _ => rfl) (fun _ _ h => h) q2⟩⟩
    | mp K V l =>
      obtain ⟨gh, g, es, h1, h2, h3, h4, h5, h6⟩ := this
      exact ⟨gh, g, es, h1, h2, h3, h4, h5, fun j e x he hx => by
        obtain ⟨k1, k2, k3, k4⟩ := h6 j e x he hx
        exact ⟨k1, k2, k3, fun i v c hv hc => ⟨(k4 i v c hv hc).1, Rep.mono (w := w) (ι := ι) (ro := ro) (fun _ _ h => h) (fun _ _ _ => rfl) (fun _ _ h => h) (k4 i v c hv hc).2⟩⟩⟩
    | row t l =>
      obtain ⟨gh, xs, h1, h2, h3, h4, h5, h6, h7⟩ := this
      exact ⟨gh, xs, h1, h2, h3, h4, OwnT.frame (w := w) h5 fun _ _ => rfl, RowD.mono (w := w) (w' := { w with drawn := w.drawn + 1 }) (ro := ro) (fun _ _ h => h) (fun _ _ _ => rfl) h6, h7⟩
theorem evDraw_sound {R : Type} (hO : OracleOk E O) (hmix : P.follows .mixedOrders = true) {a : Act} {w : World} {ι : Nat → Option Gh} {ro : Nat → Nat → Prop} (hnc : NoCond glob) (hg : Gam E w0 ro0 ⟨n, glob, objs, next⟩ a w ι ro) {k : ASt E → Option R} {rr : R} {Q : Exit → Act → World → Prop}
    (hk : ∀ S' a' w' ι' ro', NoCond S'.tmps → Gam E w0 ro0 S' a' w' ι' ro' → S'.n = n → k S' = some rr → Q .normal a' w') (h : evDraw O ops n glob objs next ops.toList [] 0 k = some rr) {id : Nat} : (Code.region id ops true).wp P Q a w :=
  wp_region_any hmix (evDraw_any hO hnc hg hk h)
end
def predL (o : Oper) : List Nat := (o.after.toList.filter (Region.binds .any)).map (·.on)
def memL : List Nat → Nat → Bool
  | [], _ => false
  | i :: r, j => Nat.beq i j || memL r j
def covGo (l : List Oper) : Nat → List Nat → Bool
  | 0, _ => true
  | i + 1, S => memL S i && (match l[i]? with | some o => covGo l i (predL o ++ S) | none => false)
def acyGo (n : Nat) : List Oper → Nat → Bool
  | [], _ => true
  | o :: r, i => (predL o).all (fun j => Nat.blt j i) && ((match o.guard with | some (g, _) => Nat.blt g n | none => true) && acyGo n r (i + 1))
def lastOf (ops : Array Oper) : Option (List Oper × Oper) := match ops.toList.reverse with
  | [] => none
  | o :: r => (match o.guard with
    | none => (match acyGo r.length r.reverse 0 && (covGo r.reverse r.length (predL o) && (predL o).all fun j => Nat.blt j r.length) with
      | true => some (r.reverse, o)
      | false => none)
    | some _ => none)
def evLast {P : Program} {E : Env P} {R : Type} (O : Oracle E) (ops : Array Oper) (S : ASt E) (k : ASt E → Option R) : Option R := match lastOf ops with
  | some (l, o) => evDraw O l.toArray S.n S.tmps S.objs S.next l [] 0 fun S' => evSeq O ops S'.n S'.tmps [o] [] S'.objs S'.next k
  | none => none
theorem memL_iff {l : List Nat} {i : Nat} : memL l i = true ↔ i ∈ l := by
  induction l with
  | nil => simp [memL]
  | cons a t ih =>
    simp only [memL, Bool.or_eq_true, ih, List.mem_cons]
    constructor
    · rintro (h | h)
      · exact .inl (Nat.eq_of_beq_eq_true h).symm
      · exact .inr h
    · rintro (rfl | h)
      · exact .inl (Nat.beq_refl _)
      · exact .inr h
theorem predL_iff {o : Oper} {D : Nat → Bool} : (∀ ed ∈ o.after.toList, Region.binds .any ed = true → D ed.on = true) ↔ ∀ j ∈ predL o, D j = true := by
  unfold predL
  constructor
  · intro h j hj
    obtain ⟨ed, he, rfl⟩ := List.mem_map.1 hj
    obtain ⟨h1, h2⟩ := List.mem_filter.1 he
    exact h ed h1 h2
  · intro h ed he hb
    exact h _ (List.mem_map.2 ⟨ed, List.mem_filter.2 ⟨he, hb⟩, rfl⟩)
theorem covGo_sound {l : List Oper} {D : Nat → Bool} (hD : ∀ i o, l[i]? = some o → D i = true → ∀ j ∈ predL o, D j = true) : ∀ (i : Nat) (S : List Nat), covGo l i S = true → (∀ j ∈ S, D j = true) → ∀ j, j < i → D j = true
  | 0, _, _, _, j, hj => absurd hj (Nat.not_lt_zero _)
  | i + 1, S, h, hS, j, hj => by
    unfold covGo at h
    rw [Bool.and_eq_true] at h
    obtain ⟨h1, h2⟩ := h
    have hi := hS i (memL_iff.1 h1)
    split at h2
    · rename_i o ho
      rcases Nat.lt_or_ge j i with hji | hji
      · exact covGo_sound hD i _ h2 (fun q hq => by
          rcases List.mem_append.1 hq with hq | hq
          · exact hD i o ho hi q hq
          · exact hS q hq) j hji
      · rw [show j = i by omega]; exact hi
    · cases h2
theorem acyGo_sound {n : Nat} : ∀ (l : List Oper) (i : Nat), acyGo n l i = true → ∀ q o, l[q]? = some o → (∀ j ∈ predL o, j < i + q) ∧ ∀ g want, o.guard = some (g, want) → g < n
  | [], _, _, q, o, ho => by simp at ho
  | p :: r, i, h, q, o, ho => by
    unfold acyGo at h
    simp only [Bool.and_eq_true, List.all_eq_true] at h
    obtain ⟨h1, h2, h3⟩ := h
    cases q with
    | zero =>
      simp at ho
      subst ho
      exact ⟨fun j hj => by have := h1 j hj; simp [Nat.blt] at this; omega, fun g want hg => by rw [hg] at h2; simp [Nat.blt] at h2; omega⟩
    | succ q =>
      obtain ⟨g1, g2⟩ := acyGo_sound r (i + 1) h3 q o (by simpa using ho)
      exact ⟨fun j hj => by have := g1 j hj; omega, g2⟩
section
variable {P : Program} {Q : Exit → Act → World → Prop}
def lastQ (P : Program) (ops : Array Oper) (o : Oper) (Q : Exit → Act → World → Prop) : Exit → Act → World → Prop
  | .normal, a, w => wpList P ops Q [o] a w
  | e, a, w => Q e a w
theorem wp_lastQ {ops : Array Oper} {o p : Oper} {a : Act} {w : World} {K : Act → World → Prop} (h : p.wp P a w K (lastQ P ops o Q)) : p.wp P a w K Q := by
  unfold Oper.wp at *
  generalize (execOp a.eval p).run P w = r at *
  cases r with
  | ok n w' =>
    cases n <;> simp only [Oper.upon] at h ⊢ <;>
      first
        | exact h
        | exact Calls.mono h (fun e w'' he => by cases e <;> exact he)
  | halt x w' => cases x <;> simp only [Oper.upon] at h ⊢ <;> exact h
theorem ready_all {ops : Array Oper} {listed : Array Bool} (h : ∀ j, j < ops.size → listed.getD j false = true) (hs : listed.size = ops.size) : Region.ready .any ops listed = [] := by
  rw [List.eq_nil_iff_forall_not_mem]
  intro i hi
  obtain ⟨h1, h2, _⟩ := (ready_iff listed i).1 hi
  have := h i h1
  simp only [Array.getD_eq_getD_getElem?] at h2 this
  rw [Array.getElem?_eq_getElem (by omega)] at h2 this
  simp at h2 this
  rw [h2] at this
  cases this
theorem getD_push {l : Array Bool} {b : Bool} {j : Nat} (h : j < l.size) (d : Bool) : (l.push b).getD j d = l.getD j d := by
  simp only [Array.getD_eq_getD_getElem?]
  rw [Array.getElem?_push_lt h, Array.getElem?_eq_getElem h]
theorem getD_push_eq {l : Array Bool} {b d : Bool} : (l.push b).getD l.size d = b := by
  simp only [Array.getD_eq_getD_getElem?]
  simp
theorem wpAny_last {ops : Array Oper} {l : List Oper} {o : Oper} (hops : ops.toList = l ++ [o]) (hg : o.guard = none) (hacy : acyGo l.length l 0 = true) (hcov : covGo l l.length (predL o) = true) (hlt : ∀ j ∈ predL o, j < l.length) :
    ∀ (fuel : Nat) (listed : Array Bool) (a : Act) (w : World), listed.size = l.length → (∀ i p, l[i]? = some p → listed.getD i false = true → ∀ j ∈ predL p, listed.getD j false = true) → wpAny P .any l.toArray (lastQ P ops o Q) fuel listed a w → wpAny P .any ops Q (fuel + 1) (listed.push false) a w := by
  have hsz : ops.size = l.length + 1 := by rw [← Array.length_toList, hops]; simp
  have hget : ∀ i, i < l.length → ops[i]? = l.toArray[i]? := fun i hi => by
    rw [← Array.getElem?_toList, hops, List.getElem?_append_left hi]; simp
  have hlast : ops[l.length]? = some o := by rw [← Array.getElem?_toList, hops, List.getElem?_append_right (Nat.le_refl _)]; simp
  have acy := acyGo_sound l 0 hacy
  have wanted_eq : ∀ (i : Nat) (p : Oper) (a : Act), l[i]? = some p → Region.wanted p (yielded ops a.tmps) = Region.wanted p (yielded l.toArray a.tmps) := fun i p a hp => by
    unfold Region.wanted
    cases hq : p.guard with
    | none => rfl
    | some gw =>
      obtain ⟨g, want⟩ := gw
      have hlt := (acy i p hp).2 g want hq
      simp only [yielded, hget g hlt]
  have readyN : ∀ (listed : Array Bool), listed.size = l.length → (∀ j, j < l.length → listed.getD j false = true) → l.length ∈ Region.ready .any ops (listed.push false) := fun listed hs hall =>
    (ready_iff _ _).2 ⟨by omega, by rw [← hs]; exact getD_push_eq, o, hlast, (predL_iff (D := fun j => (listed.push false).getD j false)).2 fun j hj => by rw [getD_push (by rw [hs]; exact hlt j hj)]; exact hall j (hlt j hj)⟩
  have readyI : ∀ (listed : Array Bool) (i : Nat), listed.size = l.length → i < l.length → (i ∈ Region.ready .any ops (listed.push false) ↔ i ∈ Region.ready .any l.toArray listed) := fun listed i hs hi => by
    rw [ready_iff, ready_iff]
    simp only [List.size_toArray, hget i hi]
    rw [getD_push (by omega)]
    constructor
    · rintro ⟨_, h2, p, hp, h3⟩
      refine ⟨hi, h2, p, hp, ?_⟩
      have hp' : l[i]? = some p := by simpa using hp
      rw [predL_iff (D := fun j => (listed.push false).getD j false)] at h3
      rw [predL_iff (D := fun j => listed.getD j false)]
      intro j hj
      have := (acy i p hp').1 j hj
      have h := h3 j hj
      rwa [getD_push (by omega)] at h
    · rintro ⟨_, h2, p, hp, h3⟩
      refine ⟨by omega, h2, p, hp, ?_⟩
      have hp' : l[i]? = some p := by simpa using hp
      rw [predL_iff (D := fun j => listed.getD j false)] at h3
      rw [predL_iff (D := fun j => (listed.push false).getD j false)]
      intro j hj
      have := (acy i p hp').1 j hj
      rw [getD_push (by omega)]
      exact h3 j hj
  -- all the others are done where none of them is ready
  have allOf : ∀ (listed : Array Bool), listed.size = l.length → Region.ready .any l.toArray listed = [] → ∀ j, j < l.length → listed.getD j false = true := by
    intro listed hs hr j
    induction j using Nat.strongRecOn with
    | ind j ih =>
      intro hj
      cases hd : listed.getD j false with
      | true => rfl
      | false =>
        exfalso
        obtain ⟨p, hp⟩ : ∃ p, l[j]? = some p := ⟨_, List.getElem?_eq_getElem hj⟩
        have hmem : j ∈ Region.ready .any l.toArray listed := (ready_iff listed j).2 ⟨by simpa using hj, by
          simp only [Array.getD_eq_getD_getElem?] at hd ⊢
          rw [Array.getElem?_eq_getElem (by omega)] at hd ⊢
          simpa using hd, p, by simpa using hp, (predL_iff (D := fun j => listed.getD j false)).2 fun q hq => by
            have := (acy j p hp).1 q hq
            exact ih q (by omega) (by omega)⟩
        rw [hr] at hmem
        cases hmem
  have fin : ∀ (fuel : Nat) (listed : Array Bool) (a : Act) (w : World), listed.size = l.length → (∀ j, j < l.length → listed.getD j false = true) → wpList P ops Q [o] a w → ∀ i ∈ Region.ready .any ops (listed.push false), wpOp P ops Q i (wpAny P .any ops Q fuel ((listed.push false).setIfInBounds i true)) a w := by
    intro fuel listed a w hs hall h i hi
    obtain ⟨h1, h2, _⟩ := (ready_iff _ _).1 hi
    have hin : i = l.length := by
      rcases Nat.lt_or_ge i l.length with h | h
      · exfalso
        have := hall i h
        rw [getD_push (by omega)] at h2
        simp only [Array.getD_eq_getD_getElem?] at h2 this
        rw [Array.getElem?_eq_getElem (by omega)] at h2 this
        simp at h2 this
        rw [h2] at this
        cases this
      · omega
    subst hin
    have done : ∀ a' w', Q .normal a' w' → wpAny P .any ops Q fuel ((listed.push false).setIfInBounds l.length true) a' w' := fun a' w' hq => by
      have hr : Region.ready .any ops ((listed.push false).setIfInBounds l.length true) = [] := ready_all (fun j hj => by
        rw [getD_set _ (by simp [hs])]
        rcases Nat.lt_or_ge j l.length with h | h
        · left; rw [getD_push (by omega)]; exact hall j h
        · right; omega) (by simp [hs, hsz])
      cases fuel with
      | zero => exact ⟨hr, hq⟩
      | succ fuel => exact ⟨fun _ => hq, fun i hi => by rw [hr] at hi; cases hi⟩
    unfold wpOp
    rw [hlast]
    unfold wpList at h
    simp only
    split
    · rename_i hw
      rw [if_pos hw] at h
      exact h.imp (Oper.wp_mono fun a' w' hq => done a' w' hq) id
    · rename_i hw
      rw [if_neg hw] at h
      exact done _ _ h
  intro fuel
  induction fuel with
  | zero =>
    intro listed a w hs hcl h
    obtain ⟨hr, hq⟩ := h
    have hall := allOf listed hs hr
    refine ⟨fun h => ?_, fin 0 listed a w hs hall hq⟩
    have := readyN listed hs hall
    rw [h] at this
    cases this
  | succ fuel ih =>
    intro listed a w hs hcl h
    obtain ⟨hr, hstep⟩ := h
    refine ⟨fun h => ?_, fun i hi => ?_⟩
    · by_cases hr' : Region.ready .any l.toArray listed = []
      · have := readyN listed hs (allOf listed hs hr')
        rw [h] at this
        cases this
      · obtain ⟨i, hi⟩ := List.exists_mem_of_ne_nil _ hr'
        have hil : i < l.length := by have := ((ready_iff _ _).1 hi).1; simpa using this
        have := (readyI listed i hs hil).2 hi
        rw [h] at this
        cases this
    · rcases Nat.lt_or_ge i l.length with hil | hil
      · have hi' := (readyI listed i hs hil).1 hi
        have hst := hstep i hi'
        obtain ⟨_, h2, p, hp, h3⟩ := (ready_iff _ _).1 hi'
        have hp' : l[i]? = some p := by simpa using hp
        have next : ∀ a' w', wpAny P .any l.toArray (lastQ P ops o Q) fuel (listed.setIfInBounds i true) a' w' → wpAny P .any ops Q (fuel + 1) ((listed.push false).setIfInBounds i true) a' w' := fun a' w' hq => by
          have := ih (listed.setIfInBounds i true) a' w' (by simp [hs]) (fun q p' hq' hd j hj => by
            rw [getD_set _ (by omega)] at hd ⊢
            rcases hd with hd | hd
            · exact .inl (hcl q p' hq' hd j hj)
            · subst hd
              rw [hp'] at hq'
              cases hq'
              exact .inl ((predL_iff (D := fun j => listed.getD j false)).1 h3 j hj)) hq
          have e : (listed.setIfInBounds i true).push false = (listed.push false).setIfInBounds i true := by
            apply Array.ext'
            simp only [Array.toList_push, Array.toList_setIfInBounds]
            rw [List.set_append_left _ _ (by rw [Array.length_toList]; omega)]
          rw [e] at this
          exact this
        unfold wpOp at hst ⊢
        rw [hget i hil]
        rw [hp] at hst ⊢
        simp only at hst ⊢
        rw [wanted_eq i p a hp']
        split
        · rename_i hw
          rw [if_pos hw] at hst
          exact hst.imp (fun h => wp_lastQ (Oper.wp_mono next h)) id
        · rename_i hw
          rw [if_neg hw] at hst
          exact next _ _ hst
      · have hin : i = l.length := by have := ((ready_iff _ _).1 hi).1; omega
        subst hin
        obtain ⟨_, _, p, hp, h3⟩ := (ready_iff _ _).1 hi
        rw [hlast] at hp
        cases hp
        rw [predL_iff (D := fun j => (listed.push false).getD j false)] at h3
        have hall : ∀ j, j < l.length → listed.getD j false = true := covGo_sound (D := fun j => listed.getD j false) (fun i p hp hd j hj => hcl i p hp hd j hj) l.length _ hcov fun j hj => by
          have := h3 j hj
          rwa [getD_push (by rw [hs]; exact hlt j hj)] at this
        exact fin (fuel + 1) listed a w hs hall (hr (ready_all (by simpa using hall) (by simpa using hs))) _ hi
end
section
variable {P : Program} {E : Env P} {O : Oracle E} {ops : Array Oper} {w0 : Start} {ro0 : Nat → Nat → Prop}
theorem evLast_sound {R : Type} (hO : OracleOk E O) (hmix : P.follows .mixedOrders = true) {S : ASt E} {a : Act} {w : World} {ι : Nat → Option Gh} {ro : Nat → Nat → Prop} (hnc : NoCond S.tmps) (hg : Gam E w0 ro0 S a w ι ro) {k : ASt E → Option R} {rr : R} {Q : Exit → Act → World → Prop}
    (hk : ∀ S' a' w' ι' ro', NoCond S'.tmps → Gam E w0 ro0 S' a' w' ι' ro' → S'.n = S.n → k S' = some rr → Q .normal a' w') (h : evLast O ops S k = some rr) {id : Nat} : (Code.region id ops true).wp P Q a w := by
  unfold evLast at h
  split at h
  · rename_i l o hl
    unfold lastOf at hl
    split at hl
    · cases hl
    · rename_i o' r hr
      split at hl
      · rename_i hgd
        split at hl
        · rename_i hc
          cases hl
          simp only [Bool.and_eq_true, List.all_eq_true] at hc
          obtain ⟨h1, h2, h3⟩ := hc
          have hops : ops.toList = r.reverse ++ [o] := by rw [← List.reverse_reverse ops.toList, hr, List.reverse_cons]
          have hlen : r.reverse.length = r.length := List.length_reverse
          refine wp_region_any hmix ?_
          have hd := evDraw_any (Q := lastQ P ops o Q) (ops := r.reverse.toArray) hO hnc hg (fun S' a' w' ι' ro' g1 g2 g3 g4 => ?_) h
          · have := wpAny_last (Q := Q) hops hgd (by rw [hlen]; exact h1) (by rw [hlen]; exact h2) (fun j hj => by have := h3 j hj; rw [hlen]; simp [Nat.blt] at this; omega) _ _ a _ (by simp) (fun i p _ hd => by
              simp only [Array.getD_eq_getD_getElem?, Array.getElem?_replicate] at hd
              split at hd <;> cases hd) hd
            have e : (Array.replicate r.reverse.toArray.size false).push false = Array.replicate ops.size false := by
              rw [← Array.length_toList (xs := ops), hops]
              simp [Array.replicate_succ]
            rw [e] at this
            have e2 : r.reverse.toArray.size + 1 = ops.size := by rw [← Array.length_toList (xs := ops), hops]; simp
            rw [e2] at this
            exact this
          · exact evSeq_sound (n := S'.n) (glob := S'.tmps) hO g1 (fun S2 a2 w2 ι2 ro2 q1 q2 q3 q4 => hk S2 a2 w2 ι2 ro2 q1 q2 (q3.trans g3) q4) [o] [] S'.objs S'.next a' w' ι' ro' g2 g4
        · cases hl
      · cases hl
  · cases h
end
end
end Go.Proofs.YtiahkjjfhnfdiaaGreatDoor.Mir
namespace Go.Proofs.YtiahkjjfhnfdiaaGreatDoor.Mir
open Go Go.RowKit
noncomputable section
section
variable {P : Program} {E : Env P}
def frz1 (objs : List (Nat × AObj E)) : AV E → AV E
  | .row t n id => match look objs id with
    | some (.row t' l) => .grow t' l id
    | _ => .row t n id
  | v => v
def frzV (objs : List (Nat × AObj E)) : AV E → AV E
  | .agg cs => .agg (cs.map (frz1 objs))
  | .tup cs => .tup (cs.map (frz1 objs))
  | v => frz1 objs v
def frzO (objs : List (Nat × AObj E)) : AObj E → AObj E
  | .row _ _ => .tail true
  | .box cs => .box (cs.map (frz1 objs))
  | o => o
def frzT (objs : List (Nat × AObj E)) : List (Nat × AV E) → List (Nat × AV E)
  | [] => []
  | (t, v) :: r => (t, frzV objs v) :: frzT objs r
def frzOs (objs : List (Nat × AObj E)) : List (Nat × AObj E) → List (Nat × AObj E)
  | [] => []
  | (i, o) :: r => (i, frzO objs o) :: frzOs objs r
def freezeS (S : ASt E) : ASt E := ⟨S.n, frzT S.objs S.tmps, frzOs S.objs S.objs, S.next⟩
structure Hint (E : Env P) where
  live : List (Nat × List Nat) := []
  frz : List Nat := []
  nils : List (Nat × List (Nat × Option Nat × Bool × E.Ty)) := []
  /-- ahead of a region: slots whose whole number is one of 0, .., n - 1, case by case -/
  split : List (Nat × List (Nat × Nat)) := []
  /-- ahead of a region: slots whose box is laid open (from now on it is only read) -/
  opn : List (Nat × List Nat) := []
  /-- of a function that is walked where it is called: how many rounds its loops may go -/
  rounds : Nat := 5
  /-- regions of open order whose last operation comes behind all the others, and is done by itself -/
  lst : List Nat := []
  /-- ahead of a region: slots whose box becomes a list (some type), or a list that is only read from now on (none) -/
  arr : List (Nat × List (Nat × Option E.Ty)) := []
  /-- so many objects (the first ones) keep their numbers at the heads of loops -/
  own : Nat := 0
def opn1 (id : Nat) (ds : List (DVal E.Den)) : AV E → AV E
  | .ptr id' off => match Nat.beq id' id with
    | true => .pelt (ds.drop off)
    | false => .ptr id' off
  | v => v
def opnV (id : Nat) (ds : List (DVal E.Den)) : AV E → AV E
  | .agg cs => .agg (cs.map (opn1 id ds))
  | .tup cs => .tup (cs.map (opn1 id ds))
  | v => opn1 id ds v
def opnO (id : Nat) (ds : List (DVal E.Den)) (i : Nat) : AObj E → AObj E
  | .box cs => match Nat.beq i id with
    | true => .dead
    | false => .box (cs.map (opn1 id ds))
  | o => o
def opnT (id : Nat) (ds : List (DVal E.Den)) : List (Nat × AV E) → List (Nat × AV E)
  | [] => []
  | (t, v) :: r => (t, opnV id ds v) :: opnT id ds r
def opnOs (id : Nat) (ds : List (DVal E.Den)) : List (Nat × AObj E) → List (Nat × AObj E)
  | [] => []
  | (i, o) :: r => (i, opnO id ds i o) :: opnOs id ds r
def open1 (t : Nat) (S : ASt E) : ASt E := match look S.tmps t with
  | some (.ptr id _) => match look S.objs id with
    | some (.box cs) => match toDs cs with
      | some ds => ⟨S.n, opnT id ds S.tmps, opnOs id ds S.objs, S.next⟩
      | none => S
    | _ => S
  | _ => S
def openS : List Nat → ASt E → ASt E
  | [], S => S
  | t :: r, S => openS r (open1 t S)
def arrB1 (p : Nat × Option E.Ty) (S : ASt E) : ASt E := match look S.tmps p.1 with
  | some (.ptr id _) => (match look S.objs id, p.2 with
    | some (.box cs), some t => (match E.agg t, toDs cs with
      | false, some ds => (match foldCs t ds with
        | some l => ⟨S.n, S.tmps, (id, .arr t l false) :: S.objs, S.next⟩
        | none => S)
      | _, _ => S)
    | some (.arr t l false), none => ⟨S.n, S.tmps, (id, .arr t l true) :: S.objs, S.next⟩
    | _, _ => S)
  | _ => S
def arrS : List (Nat × Option E.Ty) → ASt E → ASt E
  | [], S => S
  | p :: r, S => arrS r (arrB1 p S)
def splitN {R : Type} (k : ASt E → Option R) (S : ASt E) (t : Nat) (kd : IntKind) (i : Int) : Nat → Nat → Option R
  | 0, _ => none
  | m + 1, j => bif i == (j : Int) then k ⟨S.n, (t, .d (.int kd (j : Int))) :: S.tmps, S.objs, S.next⟩ else splitN k S t kd i m (j + 1)
def splitK {R : Type} : List (Nat × Nat) → ASt E → (ASt E → Option R) → Option R
  | [], S, k => k S
  | (t, n) :: r, S, k => match look S.tmps t with
    | some (.d (.int kd i)) => splitN (fun S' => splitK r S' k) S t kd i n 0
    | _ => none
def nilV (g : Bool) (t : E.Ty) (nid : Nat) : AV E := match g with
  | true => .grow t [] nid
  | false => .d (.slice t [])
def nilO (g : Bool) (S : ASt E) : List (Nat × AObj E) := match g with
  | true => (S.next, .tail true) :: S.objs
  | false => S.objs
def nil1 (s : Nat) (off : Option Nat) (g : Bool) (t : E.Ty) (S : ASt E) : ASt E := match look S.tmps s with
  | some v => match off with
    | none => bif isNil v then ⟨S.n, (s, nilV g t S.next) :: S.tmps, nilO g S, S.next + 1⟩ else S
    | some o => match v with
      | .ptr id _ => match look S.objs id with
        | some (.box cs) => match cs[o]? with
          | some u => bif isNil u then ⟨S.n, S.tmps, (id, .box (cs.set o (nilV g t S.next))) :: nilO g S, S.next + 1⟩ else S
          | none => S
        | _ => S
      | _ => S
  | none => S
def nilS : List (Nat × Option Nat × Bool × E.Ty) → ASt E → ASt E
  | [], S => S
  | (s, off, g, t) :: r, S => nilS r (nil1 s off g t S)
def memN : List Nat → Nat → Bool
  | [], _ => false
  | i :: r, j => Nat.beq i j || memN r j
def idxN : List Nat → Nat → Option Nat
  | [], _ => none
  | i :: r, j => if Nat.beq i j then some 0 else (match idxN r j with | some q => some (q + 1) | none => none)
def addN (l : List Nat) (i : Nat) : List Nat := match idxN l i with
  | some _ => l
  | none => l ++ [i]
def addAll (l : List Nat) : List Nat → List Nat
  | [] => l
  | i :: r => addAll (addN l i) r
def idsV : AV E → List Nat
  | .grow _ _ id => [id]
  | .ptr id _ => [id]
  | .row _ _ id => [id]
  | .elt id _ _ => [id]
  | .bsl _ id => [id]
  | .mp id => [id]
  | .yl id => [id]
  | .mk _ id => [id]
  | _ => []
def idsVs : List (AV E) → List Nat
  | [] => []
  | v :: r => idsV v ++ idsVs r
def idsW : AV E → List Nat
  | .agg cs => idsVs cs
  | v => idsV v
def idsWs : List (Nat × AV E) → List Nat
  | [] => []
  | (_, v) :: r => idsW v ++ idsWs r
def idsO (objs : List (Nat × AObj E)) : List Nat → List Nat
  | [] => []
  | i :: r => (match look objs i with | some (.box cs) => idsVs cs | some (.mp _ _ l) => idsVs (l.flatMap (·.2)) | _ => []) ++ idsO objs r
def closA : AV E → Bool
  | .d _ => true
  | .st _ _ => true
  | _ => false
def ren1 (ids : List Nat) : AV E → AV E
  | .grow t l id => match idxN ids id with
    | some j => .grow t l j
    | none => .d (.slice t l)
  | .ptr id off => match idxN ids id with
    | some j => .ptr j off
    | none => .any
  | .row t n id => match idxN ids id with
    | some j => .row t n j
    | none => .any
  | .elt id i off => match idxN ids id with
    | some j => .elt j i off
    | none => .any
  | .fn f a b => bif a.all closA && b.all closA then .fn f a b else .any
  | .bsl n id => match idxN ids id with
    | some j => .bsl n j
    | none => .any
  | .mp id => match idxN ids id with
    | some j => .mp j
    | none => .any
  | .yl id => match idxN ids id with
    | some j => .yl j
    | none => .any
  | .mk T id => match idxN ids id with
    | some j => .mk T j
    | none => .any
  | .d c => .d c
  | .st t x => .st t x
  | .pelt cs => .pelt cs
  | _ => .any
def renV (ids : List Nat) : AV E → AV E
  | .agg cs => .agg (cs.map (ren1 ids))
  | v => ren1 ids v
def renO (ids : List Nat) : AObj E → AObj E
  | .box cs => .box (cs.map (ren1 ids))
  | .mp K V l => .mp K V (l.map fun x => (x.1, x.2.map (ren1 ids)))
  | .lp _ _ _ _ _ _ _ => .dead
  | o => o
def plainV (objs : List (Nat × AObj E)) : AV E → AV E
  | .grow t l id => match look objs id with
    | some (.tail true) => .grow t l id
    | _ => .d (.slice t l)
  | v => v
def keepT (S : ASt E) : List Nat → List (Nat × AV E)
  | [] => []
  | t :: r => match look S.tmps t with | some x => (t, plainV S.objs x) :: keepT S r | none => keepT S r
def renT (ids : List Nat) : List (Nat × AV E) → List (Nat × AV E)
  | [] => []
  | (t, v) :: r => (t, renV ids v) :: renT ids r
def renOs (objs : List (Nat × AObj E)) (ids : List Nat) : List Nat → Nat → List (Nat × AObj E)
  | [], _ => []
  | i :: r, j => (j, match look objs i with | some o => renO ids o | none => .dead) :: renOs objs ids r (j + 1)
def headS (own : Nat) (live : List Nat) (S : ASt E) : ASt E :=
  let kept := keepT S live
  let ids0 := addAll (List.range own) (idsWs kept)
  let ids := addAll ids0 (idsO S.objs ids0)
  ⟨S.n, renT ids kept, renOs S.objs ids ids 0, ids.length⟩
inductive AExit where
  | normal
  | exit (id : Nat)
  | ret
  | goto (l : Nat)
def AExit.toExit : AExit → Exit
  | .normal => .normal
  | .exit id => .exit id
  | .ret => .ret
  | .goto l => .goto l
def noGo : Code → Bool
  | .seq a b => noGo a && noGo b
  | .cond _ a b => noGo a && noGo b
  | .block _ b => noGo b
  | .loop b => noGo b
  | .scope b => noGo b
  | .goto _ => false
  | _ => true
def nloops : Code → Nat
  | .scope b => (match noGo b with
    | true => nloops b
    | false => 0)
  | .seq a b => nloops a + nloops b
  | .cond _ a b => nloops a + nloops b
  | .block _ b => nloops b
  | .loop b => nloops b + 1
  | _ => 0
def atN {α : Type} (l : List (Nat × List α)) (i : Nat) : List α := match look l i with
  | some x => x
  | none => []
def headAt (h : Hint E) (i : Nat) (S : ASt E) : ASt E := headS h.own (atN h.live i) (nilS (atN h.nils i) S)
def evReg {R : Type} (O : Oracle E) (ops : Array Oper) (dr : Bool) (S : ASt E) (k : ASt E → Option R) : Option R := match dr with
  | true => evDraw O ops S.n S.tmps S.objs S.next ops.toList [] 0 k
  | false => evSeq O ops S.n S.tmps ops.toList [] S.objs S.next k
def evRegL {R : Type} (b : Bool) (O : Oracle E) (ops : Array Oper) (dr : Bool) (S : ASt E) (k : ASt E → Option R) : Option R := match b, dr with
  | true, true => evLast O ops S k
  | _, _ => evReg O ops dr S k
def seqK {R : Type} (f : ASt E → Option R) (k : AExit → ASt E → Option R) (e : AExit) (S : ASt E) : Option R := match e with
  | .normal => f S
  | .exit id => k (.exit id) S
  | .ret => k .ret S
  | .goto l => k (.goto l) S
def blockK {R : Type} (id : Nat) (k : AExit → ASt E → Option R) (e : AExit) (S : ASt E) : Option R := match e with
  | .normal => k .normal S
  | .exit i => (match Nat.beq i id with | true => k .normal S | false => k (.exit i) S)
  | .ret => k .ret S
  | .goto l => k (.goto l) S
def hasScope : Code → Bool
  | .seq a b => hasScope a || hasScope b
  | .cond _ a b => hasScope a || hasScope b
  | .block _ b => hasScope b
  | .loop b => hasScope b
  | .scope b => !(noGo b)
  | _ => false
def scopeK {R : Type} (h : Hint E) (G : Nat → ASt E → Option R) (c : Code) (k : AExit → ASt E → Option R) (e : AExit) (S : ASt E) : Option R := match e with
  | .normal => k .normal S
  | .exit id => k (.exit id) S
  | .ret => k .ret S
  | .goto l => (match findLabel c l with | some _ => G (100 + l) (headAt h (100 + l) S) | none => none)
def noGoK {R : Type} (k : AExit → ASt E → Option R) (e : AExit) (S : ASt E) : Option R := match e with
  | .normal => k .normal S
  | .exit id => k (.exit id) S
  | .ret => k .ret S
  | .goto _ => none
def evCode {R : Type} (O : Oracle E) (h : Hint E) (G : Nat → ASt E → Option R) : Nat → Code → ASt E → (AExit → ASt E → Option R) → Option R
  | _, .skip, S, k => k .normal S
  | _, .region id ops dr, S, k => splitK (atN h.split id) (openS (atN h.opn id) (arrS (atN h.arr id) (match memN h.frz id with | true => freezeS S | false => S))) fun S' => evRegL (memN h.lst id) O ops dr S' (k .normal)
  | i, .seq x y, S, k => (match hasScope x && hasScope y with
    | true => none
    | false => evCode O h G i x S (seqK (fun S' => evCode O h G (i + nloops x) y S' k) k))
  | i, .cond c x y, S, k => (match hasScope x || hasScope y with
    | true => none
    | false => match getA S.tmps [] c with
      | .d (.bool b) => bif b then evCode O h G i x S k else evCode O h G (i + nloops x) y S k
      | _ => none)
  | i, .scope c, S, k => (match noGo c with
    | true => evCode O h G i c S (noGoK k)
    | false => (match hasScope c, nloops c with
      | false, 0 => evCode O h G i c S (scopeK h G c k)
      | _, _ => none))
  | _, .label _, S, k => k .normal S
  | _, .goto l, S, k => k (.goto l) S
  | i, .block id body, S, k => evCode O h G i body S (blockK id k)
  | i, .loop _, S, _ => G i (headAt h i S)
  | _, .exit id, S, k => k (.exit id) S
  | _, .ret, S, k => k .ret S
  | _, _, _, _ => none
def ctxK {R : Type} (O : Oracle E) (h : Hint E) (G : Nat → ASt E → Option R) : Nat → Code → Nat → (AExit → ASt E → Option R) → Option (Nat × Code × (AExit → ASt E → Option R))
  | i, .loop b, 0, k => some (i, b, k)
  | i, .loop b, j + 1, k => ctxK O h G (i + 1) b j (seqK (fun S => G i (headAt h i S)) k)
  | i, .seq x y, j, k => match Nat.blt j (nloops x) with
    | true => ctxK O h G i x j (seqK (fun S' => evCode O h G (i + nloops x) y S' k) k)
    | false => ctxK O h G (i + nloops x) y (j - nloops x) k
  | i, .cond _ x y, j, k => match Nat.blt j (nloops x) with
    | true => ctxK O h G i x j k
    | false => ctxK O h G (i + nloops x) y (j - nloops x) k
  | i, .block id b, j, k => ctxK O h G i b j (blockK id k)
  | i, .scope b, j, k => (match noGo b with
    | true => ctxK O h G i b j (noGoK k)
    | false => none)
  | _, _, _, _ => none
def ctxS {R : Type} (O : Oracle E) (h : Hint E) (G : Nat → ASt E → Option R) : Nat → Code → (AExit → ASt E → Option R) → Option (Code × (AExit → ASt E → Option R))
  | _, .scope c, k => some (c, k)
  | i, .seq x y, k => (match hasScope x, hasScope y with
    | true, false => ctxS O h G i x (seqK (fun S' => evCode O h G (i + nloops x) y S' k) k)
    | false, true => ctxS O h G (i + nloops x) y k
    | _, _ => none)
  | i, .block id b, k => ctxS O h G i b (blockK id k)
  | _, _, _ => none
def segS {R : Type} (O : Oracle E) (h : Hint E) (G : Nat → ASt E → Option R) (c : Code) (l : Nat) (S : ASt E) (k : AExit → ASt E → Option R) : Option R := match ctxS O h G 0 c k with
  | some (sc, k') => (match findLabel sc l with
    | some rest => (match hasScope rest, nloops rest with
      | false, 0 => evCode O h G 0 rest S (scopeK h G sc k')
      | _, _ => none)
    | none => none)
  | none => none
def segC {R : Type} (O : Oracle E) (h : Hint E) (G : Nat → ASt E → Option R) (c : Code) (j : Nat) (S : ASt E) (k : AExit → ASt E → Option R) : Option R := match Nat.ble 100 j with
  | true => (match Nat.ble (nloops c) 100 with
    | true => segS O h G c (j - 100) S k
    | false => none)
  | false => (match hasScope c with
    | true => none
    | false => (match ctxK O h G 0 c j k with
      | some (i, b, k) => evCode O h G (i + 1) b S (seqK (fun S => G i (headAt h i S)) k)
      | none => none))
end
section
variable {P : Program} {E : Env P} {w : World} {ro : Nat → Nat → Prop} {ι : Nat → Option Gh} {S : ASt E} {a : Act} {w0 : Start} {ro0 : Nat → Nat → Prop}
theorem noGo_scope : ∀ (c : Code), noGo c = true → hasScope c = false
  | .seq a b, h => by
    simp only [noGo, Bool.and_eq_true] at h
    simp only [hasScope, noGo_scope a h.1, noGo_scope b h.2, Bool.or_self]
  | .cond _ a b, h => by
    simp only [noGo, Bool.and_eq_true] at h
    simp only [hasScope, noGo_scope a h.1, noGo_scope b h.2, Bool.or_self]
  | .block _ b, h => noGo_scope b h
  | .loop b, h => noGo_scope b h
  | .scope b, h => by
    have h : noGo b = true := h
    simp only [hasScope, h, Bool.not_true]
  | .skip, _ => rfl
  | .ret, _ => rfl
  | .exit _, _ => rfl
  | .region .., _ => rfl
  | .label _, _ => rfl
  | .goto _, _ => rfl
  | .rangeFunc .., _ => rfl
  | .refuse _, _ => rfl
theorem isNil_eq {v : AV E} (h : isNil v = true) : v = .d (.raw (.slice none 0 0)) := by
  unfold isNil at h
  split at h
  · rfl
  · cases h
def nilGh (E : Env P) (t : E.Ty) : Gh := ⟨.slice none 0 0, 0, E.tid t, E.size t, none⟩
theorem nilO_sound (g : Bool) (t : E.Ty) (hg : Gam E w0 ro0 S a w ι ro) : ∃ ι', (∀ id gh, ι id = some gh → ι' id = some gh) ∧ Gam E w0 ro0 ⟨S.n, S.tmps, nilO g S, S.next + 1⟩ a w ι' ro ∧ Rep E w ro ι' (.slice none 0 0) (nilV g t S.next) := by
  cases g with
  | false =>
    exact ⟨ι, fun _ _ h => h, ⟨hg.base, hg.size, hg.tmps, hg.objs, hg.inj, fun id h => hg.fresh id (by have h : S.next + 1 ≤ id := h; omega), fun id o h => by have := hg.ids id o h; show id < S.next + 1; omega⟩, .d _ _ (.nil t none 0)⟩
  | true =>
    have hfresh := hg.fresh S.next (Nat.le_refl _)
    have hext := setGh_ext ι S.next (nilGh E t) hfresh
    have hnew : setGh ι S.next (nilGh E t) S.next = some (nilGh E t) := if_pos rfl
    have hold : ∀ id, id ≠ S.next → setGh ι S.next (nilGh E t) id = ι id := fun id h => if_neg h
    refine ⟨setGh ι S.next (nilGh E t), hext, ⟨⟨hg.base.below, hg.base.rolt, hg.base.ronew, fun id gh k h1 h2 => ?_, hg.base.defers, fun q hq => ⟨(hg.base.keep q hq).1, fun id gh h => hext id gh ((hg.base.keep q hq).2 id gh h)⟩, fun k o h => ⟨(hg.base.held k o h).1, fun id gh h1 h2 => by by_cases e : id = S.next; (· subst e; rw [hnew] at h1; cases h1; cases h2); (· rw [hold id e] at h1; exact (hg.base.held k o h).2 id gh h1 h2)⟩⟩, hg.size, fun t' x hl => ?_, fun id o hl => ?_, ?_, fun id h => ?_, fun id o hl => ?_⟩, ?_⟩
    · by_cases e : id = S.next
      · subst e; rw [hnew] at h1; cases h1; cases h2
      · rw [hold id e] at h1; exact hg.base.ilt id gh k h1 h2
    · obtain ⟨v, hv, hs⟩ := hg.tmps t' x hl
      exact ⟨v, hv, hs.mono (fun _ _ h => h) (fun _ _ _ => rfl) hext⟩
    · simp only [nilO, look_nil, look_cons] at hl
      split at hl
      · rename_i hb
        have := Nat.eq_of_beq_eq_true hb
        subst this
        cases hl
        intro _
        exact ⟨nilGh E t, [], hnew, .inl ⟨World.ownsRow_nil w 0 _ _, rfl⟩, fun g hg => by cases hg⟩
      · rename_i hb
        have hne : id ≠ S.next := fun e => by subst e; simp at hb
        have h := hg.objs id o hl
        cases o with
        | dead => trivial
        | box cs =>
          obtain ⟨gh, g, vs, ty, h1, h2, hb, h3, h4, h5, h6⟩ := h
          exact ⟨gh, g, vs, ty, hext _ _ h1, h2, hb, h3, h4, fun j v c hv hc => ⟨(h5 j v c hv hc).1, (h5 j v c hv hc).2.mono (fun _ _ h => h) (fun _ _ _ => rfl) hext⟩, h6⟩
        | tail l =>
          intro hl
          obtain ⟨gh, xs, h1, h2⟩ := h hl
          exact ⟨gh, xs, hext _ _ h1, h2⟩
        | dfr =>
          obtain ⟨gh, g, h1, h2⟩ := h
          exact ⟨gh, g, hext _ _ h1, h2⟩
        | arr t l fz =>
          obtain ⟨h0, gh, g, vs, ty, h1, h2, hb, h3, h4, h5, h6⟩ := h
          exact ⟨h0, gh, g, vs, ty, hext _ _ h1, h2, hb, h3, h4, fun j v c hv hc => ⟨(h5 j v c hv hc).1, (h5 j v c hv hc).2.mono (fun _ _ h => h) (fun _ _ _ => rfl) hext⟩, h6⟩
        | lp st pend n tm ps assign body =>
          obtain ⟨gh, g, rec, h1, h2, h3, h4, h5⟩ := h
          exact ⟨gh, g, rec, hext _ _ h1, h2, h3, h4, fun t x hl => by
            obtain ⟨v, q1, q2⟩ := h5 t x hl
            exact ⟨v, q1, q2.mono (fun _ _ h => h) (fun _ _ _ => rfl) hext⟩⟩
        | mp K V l =>
          obtain ⟨gh, g, es, h1, h2, h3, h4, h5, h6⟩ := h
          exact ⟨gh, g, es, hext _ _ h1, h2, h3, h4, h5, fun j e x he hx => by
            obtain ⟨k1, k2, k3, k4⟩ := h6 j e x he hx
            exact ⟨k1, k2, k3, fun i v c hv hc => ⟨(k4 i v c hv hc).1, (k4 i v c hv hc).2.mono (fun _ _ h => h) (fun _ _ _ => rfl) hext⟩⟩⟩
        | row t l =>
          obtain ⟨gh, xs, h1, h2⟩ := h
          exact ⟨gh, xs, hext _ _ h1, h2⟩
    · intro id id' o o' gh gh' k hl hl' l1 l2 i1 i2 b1 b2
      by_cases e : id = S.next
      · subst e; rw [hnew] at i1; cases i1; cases b1
      · by_cases e' : id' = S.next
        · subst e'; rw [hnew] at i2; cases i2; cases b2
        · rw [hold id e] at i1
          rw [hold id' e'] at i2
          simp only [nilO, look_nil, look_cons] at hl hl'
          rw [if_neg (fun hb => e (Nat.eq_of_beq_eq_true hb).symm)] at hl
          rw [if_neg (fun hb => e' (Nat.eq_of_beq_eq_true hb).symm)] at hl'
          exact hg.inj id id' o o' gh gh' k hl hl' l1 l2 i1 i2 b1 b2
    · have h : S.next + 1 ≤ id := h
      rw [hold id (by omega)]
      exact hg.fresh id (by omega)
    · simp only [nilO, look_nil, look_cons] at hl
      show id < S.next + 1
      split at hl
      · rename_i hb
        have := Nat.eq_of_beq_eq_true hb
        omega
      · have := hg.ids id o hl; omega
    · exact .grow (nilGh E t) t [] S.next hnew rfl rfl rfl (.nil t none 0)
theorem nilV_cond {g : Bool} {t : E.Ty} {i : Nat} : isCond (nilV (E := E) g t i) = false := by cases g <;> rfl
theorem nil1_sound (s : Nat) (off : Option Nat) (g : Bool) (t : E.Ty) (hnc : NoCond S.tmps) (hg : Gam E w0 ro0 S a w ι ro) : ∃ ι', NoCond (nil1 s off g t S).tmps ∧ Gam E w0 ro0 (nil1 s off g t S) a w ι' ro ∧ (nil1 s off g t S).n = S.n := by
  have same : ∃ ι', NoCond S.tmps ∧ Gam E w0 ro0 S a w ι' ro ∧ S.n = S.n := ⟨ι, hnc, hg, rfl⟩
  unfold nil1
  split
  · rename_i v hv
    split
    · cases hn : isNil v with
      | false => exact same
      | true =>
        simp only [cond_true]
        obtain rfl := isNil_eq hn
        obtain ⟨ι', hext, hg', hr⟩ := nilO_sound g t hg
        obtain ⟨u, hu, hs⟩ := hg.tmps s _ hv
        have hu' : u = .slice none 0 0 := Rep.raw_inv hs
        subst hu'
        refine ⟨ι', fun p hp => ?_, ⟨hg'.base, hg'.size, fun t' x hl => ?_, hg'.objs, hg'.inj, hg'.fresh, hg'.ids⟩, trivial⟩
        · cases hp with
          | head => exact nilV_cond
          | tail _ hp => exact hnc p hp
        · simp only [look_nil, look_cons] at hl
          split at hl
          · rename_i hb
            have := Nat.eq_of_beq_eq_true hb
            subst this
            cases hl
            refine ⟨_, hu, ?_⟩
            have hc := nilV_cond (E := E) (g := g) (t := t) (i := S.next)
            generalize nilV g t S.next = y at hr hc
            cases y <;> first | exact hr | cases hc
          · exact hg'.tmps t' x hl
    · rename_i o
      split
      · rename_i id off'
        split
        · rename_i cs hob
          split
          · rename_i u hu
            cases hn : isNil u with
            | false => exact same
            | true =>
              simp only [cond_true]
              obtain rfl := isNil_eq hn
              obtain ⟨ι', hext, hg', hr⟩ := nilO_sound g t hg
              have hlt := hg.ids id _ hob
              have hob' : look (nilO g S) id = some (.box cs) := by
                cases g with
                | false => exact hob
                | true => simp only [nilO, look_nil, look_cons]; rw [if_neg (fun hb => by have := Nat.eq_of_beq_eq_true hb; omega)]; exact hob
              refine ⟨ι', hnc, ⟨hg'.base, hg'.size, hg'.tmps, fun id' o' hl => ?_, ?_, hg'.fresh, fun id' o' hl => ?_⟩, trivial⟩
              · simp only [look_nil, look_cons] at hl
                split at hl
                · rename_i hb
                  have := Nat.eq_of_beq_eq_true hb
                  subst this
                  cases hl
                  obtain ⟨gh, g', vs, ty, h1, h2, hb, h3, h4, h5, h6⟩ := hg'.objs id _ hob'
                  refine ⟨gh, g', vs, ty, h1, h2, hb, h3, by simp [h4], fun j v c hv hc => ?_, h6⟩
                  have hjl : j < cs.length := by have := (List.getElem?_eq_some_iff.1 hc).1; simpa using this
                  have hcj := List.getElem?_eq_getElem hjl
                  have h5j := h5 j v _ hv hcj
                  refine ⟨h5j.1, ?_⟩
                  by_cases hjo : j = o
                  · subst hjo
                    rw [List.getElem?_set_self hjl] at hc
                    cases hc
                    have h5u := (h5 j v _ hv hu).2
                    have : v = .slice none 0 0 := Rep.raw_inv h5u
                    subst this
                    exact hr
                  · rw [List.getElem?_set_ne (fun e => hjo e.symm)] at hc
                    exact (h5 j v c hv hc).2
                · exact hg'.objs id' o' hl
              · intro i1 i2 o1 o2 gh gh' k hl hl' l1 l2 e1 e2 b1 b2
                have lift : ∀ i ob, look ((id, AObj.box (cs.set o (nilV g t S.next))) :: nilO g S) i = some ob → ob.live = true → ∃ ob', look (nilO g S) i = some ob' ∧ ob'.live = true := by
                  intro i ob h hl
                  simp only [look_nil, look_cons] at h
                  split at h
                  · rename_i hb
                    have := Nat.eq_of_beq_eq_true hb
                    subst this
                    exact ⟨_, hob', rfl⟩
                  · exact ⟨ob, h, hl⟩
                obtain ⟨q1, g1, g2⟩ := lift i1 o1 hl l1
                obtain ⟨q2, g3, g4⟩ := lift i2 o2 hl' l2
                exact hg'.inj i1 i2 q1 q2 gh gh' k g1 g3 g2 g4 e1 e2 b1 b2
              · simp only [look_nil, look_cons] at hl
                split at hl
                · rename_i hb
                  have := Nat.eq_of_beq_eq_true hb
                  subst this
                  show id < S.next + 1
                  omega
                · exact hg'.ids id' o' hl
          · exact same
        · exact same
      · exact same
  · exact same
theorem nilS_sound : ∀ (l : List (Nat × Option Nat × Bool × E.Ty)) (S : ASt E) (ι : Nat → Option Gh), NoCond S.tmps → Gam E w0 ro0 S a w ι ro → ∃ ι', NoCond (nilS l S).tmps ∧ Gam E w0 ro0 (nilS l S) a w ι' ro ∧ (nilS l S).n = S.n
  | [], S, ι, hnc, hg => ⟨ι, hnc, hg, rfl⟩
  | (s, off, g, t) :: r, S, ι, hnc, hg => by
    obtain ⟨ι1, h1, h2, h3⟩ := nil1_sound s off g t hnc hg
    obtain ⟨ι2, h4, h5, h6⟩ := nilS_sound r (nil1 s off g t S) ι1 h1 h2
    exact ⟨ι2, h4, h5, h6.trans h3⟩
theorem look_frzT {objs : List (Nat × AObj E)} : ∀ {l : List (Nat × AV E)} {t : Nat} {y : AV E}, look (frzT objs l) t = some y → ∃ x, look l t = some x ∧ y = frzV objs x
  | [], _, _, h => by cases h
  | (u, x) :: r, t, y, h => by
    simp only [frzT, look_nil, look_cons] at h ⊢
    split at h
    · rename_i hb; rw [if_pos hb]; cases h; exact ⟨x, rfl, rfl⟩
    · rename_i hb; rw [if_neg hb]; exact look_frzT h
theorem look_frzOs {objs : List (Nat × AObj E)} : ∀ {l : List (Nat × AObj E)} {t : Nat} {y : AObj E}, look (frzOs objs l) t = some y → ∃ x, look l t = some x ∧ y = frzO objs x
  | [], _, _, h => by cases h
  | (u, x) :: r, t, y, h => by
    simp only [frzOs, look_nil, look_cons] at h ⊢
    split at h
    · rename_i hb; rw [if_pos hb]; cases h; exact ⟨x, rfl, rfl⟩
    · rename_i hb; rw [if_neg hb]; exact look_frzOs h
theorem frz1_cond {objs : List (Nat × AObj E)} {x : AV E} : isCond (frz1 objs x) = isCond x := by
  cases x <;> try rfl
  rename_i t n id
  show isCond (match look objs id with | some (.row t' l) => .grow t' l id | _ => .row t n id) = false
  split <;> rfl
theorem frzV_cond {objs : List (Nat × AObj E)} {x : AV E} : isCond (frzV objs x) = isCond x := by
  have h := frz1_cond (objs := objs) (x := x)
  cases x <;> first | rfl | exact h
theorem noCond_frzT {objs : List (Nat × AObj E)} : ∀ {l : List (Nat × AV E)}, NoCond l → NoCond (frzT objs l)
  | [], _ => fun p h => by cases h
  | (t, x) :: r, hn => fun p h => by
    cases h with
    | head => exact frzV_cond.trans (hn (t, x) List.mem_cons_self)
    | tail _ h => exact noCond_frzT (fun p h => hn p (List.mem_cons_of_mem _ h)) p h
def frzRo (objs : List (Nat × AObj E)) (ι : Nat → Option Gh) (ro : Nat → Nat → Prop) : Nat → Nat → Prop := fun k o =>
  ro k o ∨ ∃ id t l gh, look objs id = some (.row t l) ∧ ι id = some gh ∧ gh.blk = some k ∧ o < gh.n * gh.sz
theorem freezeS_sound (hnc : NoCond S.tmps) (hg : Gam E w0 ro0 S a w ι ro) : NoCond (freezeS S).tmps ∧ Gam E w0 ro0 (freezeS S) a w ι (frzRo S.objs ι ro) := by
  have hro : ∀ k o, ro k o → frzRo S.objs ι ro k o := fun _ _ h => .inl h
  have one : ∀ (v : Value) (x : AV E), Rep E w ro ι v x → Rep E w (frzRo S.objs ι ro) ι v (frz1 S.objs x) := by
    intro v x h
    have hm := h.mono (w' := w) hro (fun _ _ _ => rfl) (fun _ _ h => h)
    cases h with
    | row gh t id ad cap h1 h2 h3 h4 h5 =>
      show Rep E w _ ι gh.v (match look S.objs id with | some (.row t' l) => .grow t' l id | _ => .row t gh.n id)
      split
      · rename_i t' l hob
        obtain ⟨gh', xs, hi', hn, hge, hgs, hown, hrow, hnro⟩ := hg.objs id _ hob
        rw [h1] at hi'
        cases hi'
        refine .grow gh t' l id h1 hn hge hgs ?_
        have hown' := hown
        unfold OwnT at hown'
        rw [hn, hge, hgs] at hown'
        refine slice_of_rowD hown' (fun g o hb ho => .inr ⟨id, t', l, gh, hob, h1, hb, by rw [hn, hgs]; exact ho⟩) (hrow.mono hro (fun _ _ _ => rfl))
      · exact hm
    | _ => exact hm
  have many : ∀ (vs : Array Value) (cs : List (AV E)), (∀ (j : Nat) v c, vs[j]? = some v → cs[j]? = some c → Rep E w ro ι v c) → ∀ (j : Nat) v c, vs[j]? = some v → (cs.map (frz1 S.objs))[j]? = some c → Rep E w (frzRo S.objs ι ro) ι v c := by
    intro vs cs h j v c hv hc
    rw [List.getElem?_map] at hc
    cases hx : cs[j]? with
    | none => rw [hx] at hc; cases hc
    | some y => rw [hx] at hc; cases hc; exact one v y (h j v y hv hx)
  have all : ∀ (v : Value) (x : AV E), Rep E w ro ι v x → Rep E w (frzRo S.objs ι ro) ι v (frzV S.objs x) := by
    intro v x h
    have h1 := one v x h
    cases h with
    | agg vs cs hs hi => exact .agg vs _ (by simp [hs]) (many vs cs hi)
    | tup vs cs hs hi => exact .tup vs _ (by simp [hs]) (many vs cs hi)
    | _ => exact h1
  have blkne : ∀ id ob, look S.objs id = some ob → ob.live = true → ∀ gh k, ι id = some gh → gh.blk = some k → ∀ id' t l gh', look S.objs id' = some (.row t l) → ι id' = some gh' → gh'.blk = some k → id = id' :=
    fun id ob h1 h2 gh k h3 h4 id' t l gh' h5 h6 h7 => hg.inj id id' ob _ gh gh' k h1 h5 h2 rfl h3 h6 h4 h7
  refine ⟨noCond_frzT hnc, ⟨hg.base.below, fun k o h => ?_, fun k o h => ?_, hg.base.ilt, hg.base.defers, fun q hq => ⟨fun k o h => ⟨.inl ((hg.base.keep q hq).1 k o h).1, ((hg.base.keep q hq).1 k o h).2⟩, (hg.base.keep q hq).2⟩, hg.base.held⟩, hg.size, fun t y hl => ?_, fun id o hl => ?_, ?_, hg.fresh, fun id o hl => ?_⟩
  · rcases h with h | ⟨id, t, l, gh, _, hi, hb, _⟩
    · exact hg.base.rolt k o h
    · exact (hg.base.ilt id gh k hi hb).2
  · rcases h with h | ⟨id, t, l, gh, _, hi, hb, _⟩
    · exact hg.base.ronew k o h
    · exact .inr (hg.base.ilt id gh k hi hb).1
  · obtain ⟨x, hx, rfl⟩ := look_frzT hl
    obtain ⟨v, hv, hs⟩ := hg.tmps t x hx
    have hc : isCond x = false := hnc _ (look_mem _ _ _ hx)
    have hr : Rep E w ro ι v x := by cases x <;> first | exact hs | cases hc
    refine ⟨v, hv, ?_⟩
    have h2 := all v x hr
    have h3 : isCond (frzV S.objs x) = false := frzV_cond.trans hc
    generalize frzV S.objs x = y at h2 h3
    cases y <;> first | exact h2 | cases h3
  · obtain ⟨o', ho', rfl⟩ := look_frzOs hl
    have h := hg.objs id o' ho'
    cases o' with
    | dead => trivial
    | box cs =>
      obtain ⟨gh, g, vs, ty, h1, h2, hb, h3, h4, h5, h6⟩ := h
      refine ⟨gh, g, vs, ty, h1, h2, hb, h3, by simp [h4], fun j v c hv hc => ⟨?_, many vs cs (fun j v c hv hc => (h5 j v c hv hc).2) j v c hv hc⟩, fun o hr => ?_, h6.2⟩
      · have hj : j < cs.length := by have := (List.getElem?_eq_some_iff.1 hc).1; simpa using this
        exact (h5 j v _ hv (List.getElem?_eq_getElem hj)).1
      · rcases hr with hr | ⟨id', t, l, gh', hob', hi', hb', _⟩
        · exact h6.1 o hr
        · have := blkne id _ ho' rfl gh g h1 hb id' t l gh' hob' hi' hb'
          subst this
          rw [ho'] at hob'; cases hob'
    | tail live =>
      intro hlive
      obtain ⟨gh, xs, h1, h2, h3⟩ := h hlive
      refine ⟨gh, xs, h1, h2, fun g hb o ho hr => ?_⟩
      rcases hr with hr | ⟨id', t, l, gh', hob', hi', hb', _⟩
      · exact h3 g hb o ho hr
      · have := blkne id _ ho' hlive gh g h1 hb id' t l gh' hob' hi' hb'
        subst this
        rw [ho'] at hob'; cases hob'
    | dfr => exact h
    | arr t l fz =>
      obtain ⟨h0, gh, g, vs, ty, h1, h2, hb, h3, h4, h5, h6, h7⟩ := h
      refine ⟨h0, gh, g, vs, ty, h1, h2, hb, h3, h4, fun j v c hv hc => ⟨(h5 j v c hv hc).1, (h5 j v c hv hc).2.mono (fun _ _ h => .inl h) (fun _ _ _ => rfl) (fun _ _ h => h)⟩, ⟨fun hf o hr => ?_, fun hf o ho => .inl (h6.2 hf o ho)⟩, h7⟩
      rcases hr with hr | ⟨id', t, l, gh', hob', hi', hb', _⟩
      · exact h6.1 hf o hr
      · have := blkne id _ ho' rfl gh g h1 hb id' t l gh' hob' hi' hb'
        subst this
        rw [ho'] at hob'; cases hob'
    | lp st pend n tm ps assign body =>
      obtain ⟨gh, g, rec, h1, h2, h3, h4, h5⟩ := h
      exact ⟨gh, g, rec, h1, h2, h3, h4, fun t x hl => by
        obtain ⟨v, q1, q2⟩ := h5 t x hl
        exact ⟨v, q1, q2.mono (fun _ _ h => .inl h) (fun _ _ _ => rfl) (fun _ _ h => h)⟩⟩
    | mp K V l =>
      obtain ⟨gh, g, es, h1, h2, h3, h4, h5, h6⟩ := h
      exact ⟨gh, g, es, h1, h2, h3, h4, h5, fun j e x he hx => by
        obtain ⟨k1, k2, k3, k4⟩ := h6 j e x he hx
        exact ⟨k1, k2, k3, fun i v c hv hc => ⟨(k4 i v c hv hc).1, (k4 i v c hv hc).2.mono (fun _ _ h => .inl h) (fun _ _ _ => rfl) (fun _ _ h => h)⟩⟩⟩
    | row t l =>
      intro _
      obtain ⟨gh, xs, h1, hn, hge, hgs, hown, hrow, hnro⟩ := h
      refine ⟨gh, xs, h1, hown, fun g hb o ho hr => ?_⟩
      rcases hr with hr | ⟨id', t', l', gh', hob', hi', hb', ho''⟩
      · exact hnro g hb o hr
      · have := blkne id _ ho' rfl gh g h1 hb id' t' l' gh' hob' hi' hb'
        subst this
        rw [h1] at hi'
        cases hi'
        omega
  · intro id id' o o' gh gh' k hl hl' l1 l2 i1 i2 b1 b2
    obtain ⟨q, hq, rfl⟩ := look_frzOs hl
    obtain ⟨q', hq', rfl⟩ := look_frzOs hl'
    have e1 : q.live = true := by cases q <;> first | exact l1 | rfl
    have e2 : q'.live = true := by cases q' <;> first | exact l2 | rfl
    exact hg.inj id id' q q' gh gh' k hq hq' e1 e2 i1 i2 b1 b2
  · obtain ⟨q, hq, rfl⟩ := look_frzOs hl
    exact hg.ids id q hq
theorem opn1_cond {id : Nat} {ds : List (DVal E.Den)} {x : AV E} : isCond (opn1 id ds x) = isCond x := by
  cases x <;> try rfl
  rename_i id' off
  show isCond (match Nat.beq id' id with | true => .pelt (ds.drop off) | false => .ptr id' off) = false
  split <;> rfl
theorem opnV_cond {id : Nat} {ds : List (DVal E.Den)} {x : AV E} : isCond (opnV id ds x) = isCond x := by
  have h := opn1_cond (id := id) (ds := ds) (x := x)
  cases x <;> first | rfl | exact h
theorem noCond_opnT {id : Nat} {ds : List (DVal E.Den)} : ∀ {l : List (Nat × AV E)}, NoCond l → NoCond (opnT id ds l)
  | [], _ => fun p h => by cases h
  | (t, x) :: r, hn => fun p h => by
    cases h with
    | head => exact opnV_cond.trans (hn (t, x) List.mem_cons_self)
    | tail _ h => exact noCond_opnT (fun p h => hn p (List.mem_cons_of_mem _ h)) p h
theorem look_opnT {id : Nat} {ds : List (DVal E.Den)} : ∀ {l : List (Nat × AV E)} {t : Nat} {y : AV E}, look (opnT id ds l) t = some y → ∃ x, look l t = some x ∧ y = opnV id ds x
  | [], _, _, h => by cases h
  | (u, x) :: r, t, y, h => by
    simp only [opnT, look_nil, look_cons] at h ⊢
    split at h
    · rename_i hb; rw [if_pos hb]; cases h; exact ⟨x, rfl, rfl⟩
    · rename_i hb; rw [if_neg hb]; exact look_opnT h
theorem look_opnOs {id : Nat} {ds : List (DVal E.Den)} : ∀ {l : List (Nat × AObj E)} {t : Nat} {y : AObj E}, look (opnOs id ds l) t = some y → ∃ x, look l t = some x ∧ y = opnO id ds t x
  | [], _, _, h => by cases h
  | (u, x) :: r, t, y, h => by
    simp only [opnOs, look_nil, look_cons] at h ⊢
    split at h
    · rename_i hb
      rw [if_pos hb]
      cases h
      rw [Nat.eq_of_beq_eq_true hb]
      exact ⟨x, rfl, rfl⟩
    · rename_i hb; rw [if_neg hb]; exact look_opnOs h
theorem open1_sound (t : Nat) (hnc : NoCond S.tmps) (hg : Gam E w0 ro0 S a w ι ro) : ∃ ro', NoCond (open1 t S).tmps ∧ Gam E w0 ro0 (open1 t S) a w ι ro' ∧ (open1 t S).n = S.n := by
  have same : ∃ ro', NoCond S.tmps ∧ Gam E w0 ro0 S a w ι ro' ∧ S.n = S.n := ⟨ro, hnc, hg, rfl⟩
  unfold open1
  split
  · rename_i id off0 hv
    split
    · rename_i cs hob
      split
      · rename_i ds hds
        obtain ⟨gh, g, vs, ty, h1, h2, hb, h3, h4, h5, h6⟩ := hg.objs id _ hob
        have hlt := (hg.base.ilt id gh g h1 hb)
        have hdl := toDs_len hds
        let ro' : Nat → Nat → Prop := fun k o => ro k o ∨ (k = g ∧ o < cs.length)
        have hro : ∀ k o, ro k o → ro' k o := fun _ _ h => .inl h
        have one : ∀ (v : Value) (x : AV E), Rep E w ro ι v x → Rep E w ro' ι v (opn1 id ds x) := by
          intro v x h
          have hm := h.mono (w' := w) hro (fun _ _ _ => rfl) (fun _ _ h => h)
          cases h with
          | ptr gh' g' id' off i1 i2 =>
            show Rep E w ro' ι _ (match Nat.beq id' id with | true => .pelt (ds.drop off) | false => .ptr id' off)
            split
            · rename_i hbq
              have := Nat.eq_of_beq_eq_true hbq
              subst this
              rw [h1] at i1
              cases i1
              rw [h2] at i2
              cases i2
              refine .pelt g off (fun j => vs.getD (off + j) undef) (ds.drop off) (fun j c hc => ?_) (fun j c hc => ?_)
              · rw [List.getElem?_drop] at hc
                have hj : off + j < cs.length := by rw [← hdl]; exact (List.getElem?_eq_some_iff.1 hc).1
                have hjv : off + j < vs.size := by omega
                refine ⟨.inr ⟨rfl, hj⟩, ?_⟩
                simp [World.cell?, h3, hjv, Array.getD]
              · rw [List.getElem?_drop] at hc
                have hj : off + j < cs.length := by rw [← hdl]; exact (List.getElem?_eq_some_iff.1 hc).1
                have hjv : off + j < vs.size := by omega
                have hvj : vs[off + j]? = some vs[off + j] := Array.getElem?_eq_getElem hjv
                have hcj := List.getElem?_eq_getElem hj
                have hr := toD_rep (h5 _ _ _ hvj hcj).2 (toDs_at hds _ _ _ hcj hc)
                have e : vs.getD (off + j) undef = vs[off + j] := by simp [Array.getD, hjv]
                rw [e]
                exact hr.mono hro (fun _ _ _ => rfl)
            · exact hm
          | _ => exact hm
        have many : ∀ (vs : Array Value) (cs : List (AV E)), (∀ (j : Nat) v c, vs[j]? = some v → cs[j]? = some c → Rep E w ro ι v c) → ∀ (j : Nat) v c, vs[j]? = some v → (cs.map (opn1 id ds))[j]? = some c → Rep E w ro' ι v c := by
          intro vs cs h j v c hv hc
          rw [List.getElem?_map] at hc
          cases hx : cs[j]? with
          | none => rw [hx] at hc; cases hc
          | some y => rw [hx] at hc; cases hc; exact one v y (h j v y hv hx)
        have all : ∀ (v : Value) (x : AV E), Rep E w ro ι v x → Rep E w ro' ι v (opnV id ds x) := by
          intro v x h
          have h1 := one v x h
          cases h with
          | agg vs cs hs hi => exact .agg vs _ (by simp [hs]) (many vs cs hi)
          | tup vs cs hs hi => exact .tup vs _ (by simp [hs]) (many vs cs hi)
          | _ => exact h1
        have other : ∀ id' ob gh' g', look S.objs id' = some ob → ob.live = true → ι id' = some gh' → gh'.blk = some g' → id' ≠ id → g' ≠ g := by
          intro id' ob gh' g' q1 q2 q3 q4 hne e
          subst e
          exact hne (hg.inj id' id ob _ gh' gh g' q1 hob q2 rfl q3 h1 q4 hb)
        refine ⟨ro', noCond_opnT hnc, ⟨⟨hg.base.below, fun k o h => ?_, fun k o h => ?_, hg.base.ilt, hg.base.defers, fun q hq => ⟨fun k o h => ⟨.inl ((hg.base.keep q hq).1 k o h).1, ((hg.base.keep q hq).1 k o h).2⟩, (hg.base.keep q hq).2⟩, hg.base.held⟩, hg.size, fun t y hl => ?_, fun id' o hl => ?_, ?_, hg.fresh, fun id' o hl => ?_⟩, rfl⟩
        · rcases h with h | ⟨rfl, _⟩
          · exact hg.base.rolt k o h
          · exact hlt.2
        · rcases h with h | ⟨rfl, _⟩
          · exact hg.base.ronew k o h
          · exact .inr hlt.1
        · obtain ⟨x, hx, rfl⟩ := look_opnT hl
          obtain ⟨v, hv, hs⟩ := hg.tmps t x hx
          have hc : isCond x = false := hnc _ (look_mem _ _ _ hx)
          have hr : Rep E w ro ι v x := by cases x <;> first | exact hs | cases hc
          refine ⟨v, hv, ?_⟩
          have h2 := all v x hr
          have h3 : isCond (opnV id ds x) = false := opnV_cond.trans hc
          generalize opnV id ds x = y at h2 h3
          cases y <;> first | exact h2 | cases h3
        · obtain ⟨o', ho', rfl⟩ := look_opnOs hl
          have h := hg.objs id' o' ho'
          cases o' with
          | dead => trivial
          | box cs' =>
            show ObjOk E w ro' ι id' (match Nat.beq id' id with | true => .dead | false => .box (cs'.map (opn1 id ds)))
            split
            · trivial
            · rename_i hbq
              have hne : id' ≠ id := fun e => by subst e; simp at hbq
              obtain ⟨gh', g', vs', ty', q1, q2, qb, q3, q4, q5, q6⟩ := h
              refine ⟨gh', g', vs', ty', q1, q2, qb, q3, by simp [q4], fun j v c hv hc => ⟨?_, many vs' cs' (fun j v c hv hc => (q5 j v c hv hc).2) j v c hv hc⟩, fun o hr => ?_, q6.2⟩
              · have hj : j < cs'.length := by have := (List.getElem?_eq_some_iff.1 hc).1; simpa using this
                exact (q5 j v _ hv (List.getElem?_eq_getElem hj)).1
              · rcases hr with hr | ⟨hr, _⟩
                · exact q6.1 o hr
                · exact other id' _ gh' g' ho' rfl q1 qb hne hr
          | tail live =>
            intro hlive
            obtain ⟨gh', xs, q1, q2, q3⟩ := h hlive
            have hne : id' ≠ id := fun e => by subst e; rw [hob] at ho'; cases ho'
            refine ⟨gh', xs, q1, q2, fun g' hb' o ho hr => ?_⟩
            rcases hr with hr | ⟨hr, _⟩
            · exact q3 g' hb' o ho hr
            · exact other id' _ gh' g' ho' hlive q1 hb' hne hr
          | dfr => exact h
          | arr t l fz =>
            obtain ⟨h0, gh', g', vs', ty', q1, q2, qb, q3, q4, q5, q6, q7⟩ := h
            have hne : id' ≠ id := fun e => by subst e; rw [hob] at ho'; cases ho'
            refine ⟨h0, gh', g', vs', ty', q1, q2, qb, q3, q4, fun j v c hv hc => ⟨(q5 j v c hv hc).1, (q5 j v c hv hc).2.mono hro (fun _ _ _ => rfl) (fun _ _ h => h)⟩, ⟨fun hf o hr => ?_, fun hf o ho => .inl (q6.2 hf o ho)⟩, q7⟩
            rcases hr with hr | ⟨hr, _⟩
            · exact q6.1 hf o hr
            · exact other id' _ gh' g' ho' rfl q1 qb hne hr
          | lp st pend n tm ps assign body =>
            obtain ⟨gh', g', rec, q1, q2, q3, q4, q5⟩ := h
            exact ⟨gh', g', rec, q1, q2, q3, q4, fun t x hl => by
              obtain ⟨v, u1, u2⟩ := q5 t x hl
              exact ⟨v, u1, u2.mono hro (fun _ _ _ => rfl) (fun _ _ h => h)⟩⟩
          | mp K V l =>
            obtain ⟨gh', g', es, q1, q2, q3, q4, q5, q6⟩ := h
            exact ⟨gh', g', es, q1, q2, q3, q4, q5, fun j e x he hx => by
              obtain ⟨k1, k2, k3, k4⟩ := q6 j e x he hx
              exact ⟨k1, k2, k3, fun i v c hv hc => ⟨(k4 i v c hv hc).1, (k4 i v c hv hc).2.mono hro (fun _ _ _ => rfl) (fun _ _ h => h)⟩⟩⟩
          | row t l =>
            obtain ⟨gh', xs, q1, hn, hge, hgs, hown, hrow, hnro⟩ := h
            have hne : id' ≠ id := fun e => by subst e; rw [hob] at ho'; cases ho'
            refine ⟨gh', xs, q1, hn, hge, hgs, hown, hrow.mono hro (fun _ _ _ => rfl), fun g' hb' o hr => ?_⟩
            rcases hr with hr | ⟨hr, _⟩
            · exact hnro g' hb' o hr
            · exact other id' _ gh' g' ho' rfl q1 hb' hne hr
        · intro i1 i2 o o' gh1 gh2 k hl hl' l1 l2 e1 e2 b1 b2
          obtain ⟨q, hq, rfl⟩ := look_opnOs hl
          obtain ⟨q', hq', rfl⟩ := look_opnOs hl'
          have lv : ∀ i (q : AObj E), (opnO id ds i q).live = true → q.live = true := by
            intro i q h
            cases q <;> first | exact h | rfl
          exact hg.inj i1 i2 q q' gh1 gh2 k hq hq' (lv _ _ l1) (lv _ _ l2) e1 e2 b1 b2
        · obtain ⟨q, hq, rfl⟩ := look_opnOs hl
          exact hg.ids id' q hq
      · exact same
    · exact same
  · exact same
theorem openS_sound : ∀ (l : List Nat) (S : ASt E) (ro : Nat → Nat → Prop), NoCond S.tmps → Gam E w0 ro0 S a w ι ro → ∃ ro', NoCond (openS l S).tmps ∧ Gam E w0 ro0 (openS l S) a w ι ro' ∧ (openS l S).n = S.n
  | [], S, ro, hnc, hg => ⟨ro, hnc, hg, rfl⟩
  | t :: r, S, ro, hnc, hg => by
    obtain ⟨ro1, h1, h2, h3⟩ := open1_sound t hnc hg
    obtain ⟨ro2, h4, h5, h6⟩ := openS_sound r (open1 t S) ro1 h1 h2
    exact ⟨ro2, h4, h5, h6.trans h3⟩
theorem ObjOk.addRo {w : World} {ro ro' : Nat → Nat → Prop} {ι : Nat → Option Gh} {g : Nat} (hro : ∀ k o, ro k o → ro' k o) (hnew : ∀ k o, ro' k o → ro k o ∨ k = g) {id : Nat} {ob : AObj E} (h : ObjOk E w ro ι id ob)
    (hne : ob.live = true → ∀ gh g', ι id = some gh → gh.blk = some g' → g' ≠ g) : ObjOk E w ro' ι id ob := by
  have mono : ∀ {v : Value} {x : AV E}, Rep E w ro ι v x → Rep E w ro' ι v x := fun h => h.mono hro (fun _ _ _ => rfl) (fun _ _ h => h)
  cases ob with
  | dead => trivial
  | box cs =>
    obtain ⟨gh, g', vs, ty, q1, q2, qb, q3, q4, q5, q6, q7⟩ := h
    exact ⟨gh, g', vs, ty, q1, q2, qb, q3, q4, fun j v c hv hc => ⟨(q5 j v c hv hc).1, mono (q5 j v c hv hc).2⟩, fun o hr => (hnew _ _ hr).elim (q6 o) (hne rfl gh g' q1 qb), q7⟩
  | tail live =>
    intro hlive
    obtain ⟨gh, xs, q1, q2, q3⟩ := h hlive
    exact ⟨gh, xs, q1, q2, fun g' hb o ho hr => (hnew _ _ hr).elim (q3 g' hb o ho) (hne hlive gh g' q1 hb)⟩
  | dfr => exact h
  | arr t l fz =>
    obtain ⟨h0, gh, g', vs, ty, q1, q2, qb, q3, q4, q5, q6, q7⟩ := h
    exact ⟨h0, gh, g', vs, ty, q1, q2, qb, q3, q4, fun j v c hv hc => ⟨(q5 j v c hv hc).1, mono (q5 j v c hv hc).2⟩, ⟨fun hf o hr => (hnew _ _ hr).elim (q6.1 hf o) (hne rfl gh g' q1 qb), fun hf o ho => hro _ _ (q6.2 hf o ho)⟩, q7⟩
  | lp st pend n tm ps assign body =>
    obtain ⟨gh, g', rec, q1, q2, q3, q4, q5⟩ := h
    exact ⟨gh, g', rec, q1, q2, q3, q4, fun t x hl => by
      obtain ⟨v, u1, u2⟩ := q5 t x hl
      exact ⟨v, u1, mono u2⟩⟩
  | mp K V l =>
    obtain ⟨gh, g', es, q1, q2, q3, q4, q5, q6⟩ := h
    exact ⟨gh, g', es, q1, q2, q3, q4, q5, fun j e x he hx => by
      obtain ⟨k1, k2, k3, k4⟩ := q6 j e x he hx
      exact ⟨k1, k2, k3, fun i v c hv hc => ⟨(k4 i v c hv hc).1, mono (k4 i v c hv hc).2⟩⟩⟩
  | row t l =>
    obtain ⟨gh, xs, q1, hn, hge, hgs, hown, hrow, hnro⟩ := h
    exact ⟨gh, xs, q1, hn, hge, hgs, hown, hrow.mono hro (fun _ _ _ => rfl), fun g' hb o hr => (hnew _ _ hr).elim (hnro g' hb o) (hne rfl gh g' q1 hb)⟩
theorem Gam.other {id g : Nat} {gh : Gh} {ob ob' : AObj E} {ro' : Nat → Nat → Prop} (hnc : NoCond S.tmps) (hg : Gam E w0 ro0 S a w ι ro) (hob : look S.objs id = some ob) (hl : ob.live = true) (hi : ι id = some gh) (hb : gh.blk = some g)
    (hro : ∀ k o, ro k o → ro' k o) (hnew : ∀ k o, ro' k o → ro k o ∨ k = g) (h' : ObjOk E w ro' ι id ob') : Gam E w0 ro0 ⟨S.n, S.tmps, (id, ob') :: S.objs, S.next⟩ a w ι ro' := by
  have hlt := hg.base.ilt id gh g hi hb
  refine ⟨⟨hg.base.below, fun k o h => ?_, fun k o h => ?_, hg.base.ilt, hg.base.defers, fun q hq => ⟨fun k o h => ⟨hro _ _ ((hg.base.keep q hq).1 k o h).1, ((hg.base.keep q hq).1 k o h).2⟩, (hg.base.keep q hq).2⟩, hg.base.held⟩, hg.size, fun t x hx => ?_, fun id' o ho => ?_, ?_, hg.fresh, fun id' o ho => ?_⟩
  · rcases hnew k o h with h | rfl
    · exact hg.base.rolt k o h
    · exact hlt.2
  · rcases hnew k o h with h | rfl
    · exact hg.base.ronew k o h
    · exact .inr hlt.1
  · obtain ⟨v, hv, hs⟩ := hg.tmps t x hx
    have hc : isCond x = false := hnc _ (look_mem _ _ _ hx)
    exact ⟨v, hv, SRep.mono hro (fun _ _ _ => rfl) (fun _ _ h => h) hs⟩
  · simp only [look_nil, look_cons] at ho
    split at ho
    · rename_i hbq
      have := Nat.eq_of_beq_eq_true hbq
      subst this
      cases ho
      exact h'
    · rename_i hbq
      refine (hg.objs id' o ho).addRo hro hnew fun hl' gh' g' hi' hb' e => ?_
      subst e
      have := hg.inj id' id o ob gh' gh g' ho hob hl' hl hi' hi hb' hb
      subst this
      exact hbq (Nat.beq_refl _)
  · have pre : ∀ i o, look ((id, ob') :: S.objs) i = some o → o.live = true → ∃ o', look S.objs i = some o' ∧ o'.live = true := fun i o h hl' => by
      simp only [look_nil, look_cons] at h
      split at h
      · rename_i hbq
        have := Nat.eq_of_beq_eq_true hbq
        subst this
        exact ⟨ob, hob, hl⟩
      · exact ⟨o, h, hl'⟩
    intro i1 i2 o1 o2 g1 g2 k h1 h2 l1 l2 e1 e2 b1 b2
    obtain ⟨p1, q1, r1⟩ := pre i1 o1 h1 l1
    obtain ⟨p2, q2, r2⟩ := pre i2 o2 h2 l2
    exact hg.inj i1 i2 p1 p2 g1 g2 k q1 q2 r1 r2 e1 e2 b1 b2
  · simp only [look_nil, look_cons] at ho
    split at ho
    · rename_i hbq
      have := Nat.eq_of_beq_eq_true hbq
      subst this
      exact hg.ids id ob hob
    · exact hg.ids id' o ho
theorem arrB1_sound (p : Nat × Option E.Ty) (hnc : NoCond S.tmps) (hg : Gam E w0 ro0 S a w ι ro) : ∃ ro', NoCond (arrB1 p S).tmps ∧ Gam E w0 ro0 (arrB1 p S) a w ι ro' ∧ (arrB1 p S).n = S.n := by
  have same : ∃ ro', NoCond S.tmps ∧ Gam E w0 ro0 S a w ι ro' ∧ S.n = S.n := ⟨ro, hnc, hg, rfl⟩
  unfold arrB1
  split
  · rename_i id off hv
    split
    · rename_i cs t hob hp
      split
      · rename_i ds hag hds
        split
        · rename_i l hl
          obtain ⟨gh, g, vs, ty, h1, h2, hb, h3, h4, h5, h6, h7⟩ := hg.objs id _ hob
          obtain ⟨q1, q2⟩ := foldCs_at hl
          have hdl := toDs_len hds
          refine ⟨ro, hnc, hg.other hnc hob rfl h1 hb (fun _ _ h => h) (fun _ _ h => .inl h) ⟨hag, gh, g, vs, ty, h1, h2, hb, h3, by rw [h4, arrC_len, q1, ← hdl], fun j v c hv hc => ?_, ⟨fun _ => h6, fun hf => by cases hf⟩, h7⟩, rfl⟩
          unfold arrC at hc
          rw [List.getElem?_map] at hc
          cases hj : l[j]? with
          | none => rw [hj] at hc; cases hc
          | some x =>
            rw [hj] at hc
            cases hc
            obtain ⟨d, hd, hle⟩ := q2 j x hj
            obtain ⟨c0, r1, r2⟩ := cell1_of hag x
            rw [r1] at hle
            have hjc : j < cs.length := by rw [← hdl]; exact (List.getElem?_eq_some_iff.1 hd).1
            obtain ⟨g1, g2⟩ := h5 j v _ hv (List.getElem?_eq_getElem hjc)
            have hdr := toD_rep g2 (toDs_at hds _ _ _ (List.getElem?_eq_getElem hjc) hd)
            refine ⟨g1, ?_⟩
            rw [r2]
            exact .d _ _ ((hle.at_ 0 d c0 rfl rfl).rep hdr)
        · exact same
      · exact same
    · rename_i t l hob hp
      obtain ⟨h0, gh, g, vs, ty, h1, h2, hb, h3, h4, h5, h6, h7⟩ := hg.objs id _ hob
      refine ⟨fun k o => ro k o ∨ (k = g ∧ o < l.length), hnc, hg.other hnc hob rfl h1 hb (fun _ _ h => .inl h) (fun _ _ h => h.imp (fun h => h) And.left) ⟨h0, gh, g, vs, ty, h1, h2, hb, h3, h4, fun j v c hv hc => ⟨(h5 j v c hv hc).1, (h5 j v c hv hc).2.mono (fun _ _ h => .inl h) (fun _ _ _ => rfl) (fun _ _ h => h)⟩, ⟨fun hf => (by cases hf), fun _ o ho => .inr ⟨rfl, ho⟩⟩, h7⟩, rfl⟩
    · exact same
  · exact same
theorem arrS_sound : ∀ (l : List (Nat × Option E.Ty)) (S : ASt E) (ro : Nat → Nat → Prop), NoCond S.tmps → Gam E w0 ro0 S a w ι ro → ∃ ro', NoCond (arrS l S).tmps ∧ Gam E w0 ro0 (arrS l S) a w ι ro' ∧ (arrS l S).n = S.n
  | [], S, ro, hnc, hg => ⟨ro, hnc, hg, rfl⟩
  | p :: r, S, ro, hnc, hg => by
    obtain ⟨ro1, h1, h2, h3⟩ := arrB1_sound p hnc hg
    obtain ⟨ro2, h4, h5, h6⟩ := arrS_sound r (arrB1 p S) ro1 h1 h2
    exact ⟨ro2, h4, h5, h6.trans h3⟩
theorem splitN_sound {R : Type} {k : ASt E → Option R} {rr : R} {t : Nat} {kd : IntKind} {i : Int} (hnc : NoCond S.tmps) (hg : Gam E w0 ro0 S a w ι ro) (hl : look S.tmps t = some (.d (.int kd i))) :
    ∀ (m j : Nat), splitN k S t kd i m j = some rr → ∃ S', NoCond S'.tmps ∧ Gam E w0 ro0 S' a w ι ro ∧ S'.n = S.n ∧ k S' = some rr
  | 0, _, h => by cases h
  | m + 1, j, h => by
    unfold splitN at h
    cases hb : i == (j : Int) with
    | false => rw [hb] at h; exact splitN_sound hnc hg hl m (j + 1) h
    | true =>
      rw [hb] at h
      have e : i = (j : Int) := by simpa using hb
      subst e
      refine ⟨⟨S.n, (t, .d (.int kd (j : Int))) :: S.tmps, S.objs, S.next⟩, fun p hp => ?_, ⟨hg.base, hg.size, fun t' x hl' => ?_, hg.objs, hg.inj, hg.fresh, hg.ids⟩, rfl, h⟩
      · cases hp with
        | head => rfl
        | tail _ hp => exact hnc p hp
      · simp only [look_nil, look_cons] at hl'
        split at hl'
        · rename_i hb
          have := Nat.eq_of_beq_eq_true hb
          subst this
          cases hl'
          exact hg.tmps _ _ hl
        · exact hg.tmps t' x hl'
theorem splitK_sound {R : Type} {k : ASt E → Option R} {rr : R} : ∀ (l : List (Nat × Nat)) (S : ASt E), NoCond S.tmps → Gam E w0 ro0 S a w ι ro → splitK l S k = some rr → ∃ S', NoCond S'.tmps ∧ Gam E w0 ro0 S' a w ι ro ∧ S'.n = S.n ∧ k S' = some rr
  | [], S, hnc, hg, h => ⟨S, hnc, hg, rfl, h⟩
  | (t, n) :: r, S, hnc, hg, h => by
    unfold splitK at h
    split at h
    · rename_i kd i hl
      obtain ⟨S1, h1, h2, h3, h4⟩ := splitN_sound hnc hg hl n 0 h
      obtain ⟨S2, h5, h6, h7, h8⟩ := splitK_sound r S1 h1 h2 h4
      exact ⟨S2, h5, h6, h7.trans h3, h8⟩
    · cases h
theorem idxN_get : ∀ {l : List Nat} {i j : Nat}, idxN l i = some j → l[j]? = some i
  | [], _, _, h => by cases h
  | x :: r, i, j, h => by
    unfold idxN at h
    split at h
    · rename_i hb
      cases h
      simp [Nat.eq_of_beq_eq_true hb]
    · split at h
      · rename_i q hq
        cases h
        simpa using idxN_get hq
      · cases h
theorem idxN_none : ∀ {l : List Nat} {i : Nat}, idxN l i = none → i ∉ l
  | [], _, _ => by simp
  | x :: r, i, h => by
    unfold idxN at h
    split at h
    · cases h
    · rename_i hb
      split at h
      · cases h
      · rename_i hq
        have := idxN_none hq
        intro hm
        cases hm with
        | head => simp at hb
        | tail _ hm => exact this hm
theorem addN_nodup {l : List Nat} {i : Nat} (h : l.Nodup) : (addN l i).Nodup := by
  unfold addN
  split
  · exact h
  · rename_i hn
    rw [List.nodup_append]
    refine ⟨h, by simp, fun x hx y hy e => ?_⟩
    simp at hy
    subst hy; subst e
    exact idxN_none hn hx
theorem addAll_nodup : ∀ {m l : List Nat}, l.Nodup → (addAll l m).Nodup
  | [], _, h => h
  | _ :: r, _, h => addAll_nodup (m := r) (addN_nodup h)
theorem closA_rep {ι' : Nat → Option Gh} {v : Value} {x : AV E} (hc : closA x = true) (h : Rep E w ro ι v x) : Rep E w ro ι' v x := by
  cases h with
  | d _ c h => exact .d _ c h
  | st vs t x ha h => exact .st vs t x ha h
  | _ => cases hc
theorem ren1_rep {ids : List Nat} {v : Value} {x : AV E} (h : Rep E w ro ι v x) : Rep E w ro (fun j => (ids[j]?).bind ι) v (ren1 ids x) := by
  cases h with
  | any v => exact .any _
  | d _ c h => exact .d _ c h
  | st vs t x ha h => exact .st vs t x ha h
  | agg => exact .any _
  | tup => exact .any _
  | pelt g off f cs h1 h2 => exact .pelt g off f cs h1 h2
  | grow gh t l id h1 h2 h3 h4 h5 =>
    show Rep E w ro _ gh.v (match idxN ids id with | some j => .grow t l j | none => .d (.slice t l))
    cases hj : idxN ids id with
    | some j => exact .grow gh t l j (show (ids[j]?).bind ι = some gh by rw [idxN_get hj]; exact h1) h2 h3 h4 h5
    | none => exact .d _ _ h5
  | ptr gh g id off h1 h2 =>
    show Rep E w ro _ _ (match idxN ids id with | some j => .ptr j off | none => .any)
    cases hj : idxN ids id with
    | some j => exact .ptr gh g j off (show (ids[j]?).bind ι = some gh by rw [idxN_get hj]; exact h1) h2
    | none => exact .any _
  | row gh t id ad cap h1 h2 h3 h4 h5 =>
    show Rep E w ro _ gh.v (match idxN ids id with | some j => .row t gh.n j | none => .any)
    cases hj : idxN ids id with
    | some j => exact .row gh t j ad cap (show (ids[j]?).bind ι = some gh by rw [idxN_get hj]; exact h1) h2 h3 h4 h5
    | none => exact .any _
  | elt gh g id i off cap h1 h2 h3 =>
    show Rep E w ro _ _ (match idxN ids id with | some j => .elt j i off | none => .any)
    cases hj : idxN ids id with
    | some j => exact .elt gh g j i off cap (show (ids[j]?).bind ι = some gh by rw [idxN_get hj]; exact h1) h2 h3
    | none => exact .any _
  | yl gh l id h1 h2 =>
    show Rep E w ro _ _ (match idxN ids id with | some j => .yl j | none => .any)
    cases hj : idxN ids id with
    | some j => exact .yl gh l j (show (ids[j]?).bind ι = some gh by rw [idxN_get hj]; exact h1) h2
    | none => exact .any _
  | mp gh g id h1 h2 =>
    show Rep E w ro _ _ (match idxN ids id with | some j => .mp j | none => .any)
    cases hj : idxN ids id with
    | some j => exact .mp gh g j (show (ids[j]?).bind ι = some gh by rw [idxN_get hj]; exact h1) h2
    | none => exact .any _
  | bsl gh g id n cap h1 h2 =>
    show Rep E w ro _ _ (match idxN ids id with | some j => .bsl n j | none => .any)
    cases hj : idxN ids id with
    | some j => exact .bsl gh g j n cap (show (ids[j]?).bind ι = some gh by rw [idxN_get hj]; exact h1) h2
    | none => exact .any _
  | mk gh v g T id h1 h2 h3 h4 =>
    show Rep E w ro _ _ (match idxN ids id with | some j => .mk T j | none => .any)
    cases hj : idxN ids id with
    | some j => exact .mk gh _ g T j (show (ids[j]?).bind ι = some gh by rw [idxN_get hj]; exact h1) h2 h3 h4
    | none => exact .any _
  | sd => exact .any _
  | fn f vs us a b h1 h2 h3 h4 =>
    show Rep E w ro _ _ (bif a.all closA && b.all closA then .fn f a b else .any)
    cases hc : a.all closA && b.all closA with
    | false => exact .any _
    | true =>
      rw [Bool.and_eq_true, List.all_eq_true, List.all_eq_true] at hc
      exact .fn f vs us a b h1 h2 (fun j v c hv hj => closA_rep (hc.1 c (List.mem_of_getElem? hj)) (h3 j v c hv hj)) fun j v c hv hj => closA_rep (hc.2 c (List.mem_of_getElem? hj)) (h4 j v c hv hj)
theorem map_rep {ids : List Nat} {vs : Array Value} {cs : List (AV E)} (h : ∀ (j : Nat) v c, vs[j]? = some v → cs[j]? = some c → Rep E w ro ι v c) : ∀ (j : Nat) v c, vs[j]? = some v → (cs.map (ren1 ids))[j]? = some c → Rep E w ro (fun j => (ids[j]?).bind ι) v c := by
  intro j v c hv hc
  rw [List.getElem?_map] at hc
  cases hx : cs[j]? with
  | none => rw [hx] at hc; cases hc
  | some y =>
    rw [hx] at hc
    cases hc
    exact ren1_rep (h j v y hv hx)
theorem renV_rep {ids : List Nat} {v : Value} {x : AV E} (h : Rep E w ro ι v x) : Rep E w ro (fun j => (ids[j]?).bind ι) v (renV ids x) := by
  have one := ren1_rep (ids := ids) h
  cases h with
  | agg vs cs h1 h2 => exact .agg vs _ (by simp [h1]) (map_rep h2)
  | _ => exact one
theorem plainV_rep {objs : List (Nat × AObj E)} {v : Value} {x : AV E} (h : Rep E w ro ι v x) : Rep E w ro ι v (plainV objs x) := by
  have h0 := h
  cases h with
  | grow gh t l id h1 h2 h3 h4 h5 =>
    show Rep E w ro ι gh.v (match look objs id with | some (.tail true) => .grow t l id | _ => .d (.slice t l))
    split
    · exact h0
    · exact .d _ _ h5
  | _ => exact h0
theorem look_keepT {live : List Nat} {t : Nat} {y : AV E} (h : look (keepT S live) t = some y) : ∃ x, look S.tmps t = some x ∧ y = plainV S.objs x := by
  induction live with
  | nil => cases h
  | cons u r ih =>
    unfold keepT at h
    cases hx : look S.tmps u with
    | some x =>
      rw [hx] at h
      simp only [look_nil, look_cons] at h
      split at h
      · rename_i hb
        have := Nat.eq_of_beq_eq_true hb
        subst this
        cases h
        exact ⟨x, hx, rfl⟩
      · exact ih h
    | none =>
      rw [hx] at h
      exact ih h
theorem look_renT {ids : List Nat} : ∀ {l : List (Nat × AV E)} {t : Nat} {y : AV E}, look (renT ids l) t = some y → ∃ x, look l t = some x ∧ y = renV ids x
  | [], _, _, h => by cases h
  | (u, x) :: r, t, y, h => by
    simp only [renT, look_nil, look_cons] at h ⊢
    split at h
    · rename_i hb; rw [if_pos hb]; cases h; exact ⟨x, rfl, rfl⟩
    · rename_i hb; rw [if_neg hb]; exact look_renT h
theorem look_renOs {objs : List (Nat × AObj E)} {ids : List Nat} : ∀ {l : List Nat} {j q : Nat} {o : AObj E}, look (renOs objs ids l j) q = some o → ∃ i, j ≤ q ∧ l[q - j]? = some i ∧ (o = .dead ∨ ∃ o', look objs i = some o' ∧ o = renO ids o')
  | [], _, _, _, h => by cases h
  | i :: r, j, q, o, h => by
    simp only [renOs, look_nil, look_cons] at h
    split at h
    · rename_i hb
      have := Nat.eq_of_beq_eq_true hb
      subst this
      refine ⟨i, Nat.le_refl _, by simp, ?_⟩
      cases ho : look objs i with
      | none => rw [ho] at h; cases h; exact .inl rfl
      | some o' => rw [ho] at h; cases h; exact .inr ⟨o', rfl, rfl⟩
    · obtain ⟨i', h1, h2, h3⟩ := look_renOs h
      exact ⟨i', by omega, by rw [show q - j = (q - (j + 1)) + 1 from by omega]; simpa using h2, h3⟩
theorem noCond_renT {ids : List Nat} : ∀ (l : List (Nat × AV E)), NoCond (renT ids l)
  | [] => fun p h => by cases h
  | (t, x) :: r => fun p h => by
    cases h with
    | tail _ h => exact noCond_renT r p h
    | head =>
      simp only
      cases x with
      | cond => rfl
      | agg => rfl
      | any => rfl
      | d => rfl
      | st => rfl
      | tup => rfl
      | pelt => rfl
      | grow t l id => simp only [renV, ren1]; split <;> rfl
      | ptr id off => simp only [renV, ren1]; split <;> rfl
      | row t n id => simp only [renV, ren1]; split <;> rfl
      | elt id i off => simp only [renV, ren1]; split <;> rfl
      | bsl n id => simp only [renV, ren1]; split <;> rfl
      | mp id => simp only [renV, ren1]; split <;> rfl
      | yl id => simp only [renV, ren1]; split <;> rfl
      | mk T id => simp only [renV, ren1]; split <;> rfl
      | sd => rfl
      | fn f a b => simp only [renV, ren1]; cases a.all closA && b.all closA <;> rfl
theorem arrC_rep {ι' : Nat → Option Gh} {v : Value} {c : AV E} {t : E.Ty} {l : List (E.Den t)} {j : Nat} (h : Rep E w ro ι v c) (hc : (arrC t l)[j]? = some c) : Rep E w ro ι' v c := by
  unfold arrC at hc
  rw [List.getElem?_map] at hc
  cases hl : l[j]? with
  | none => rw [hl] at hc; cases hc
  | some x =>
    rw [hl] at hc
    cases hc
    unfold cell1 at h ⊢
    cases h with
    | d _ _ hd => exact .d _ _ hd
theorem ren_sound (ids : List Nat) (hnd : ids.Nodup) (kept : List (Nat × AV E)) (hkept : ∀ t y, look kept t = some y → ∃ z, look S.tmps t = some z ∧ y = plainV S.objs z) (hio : ∀ q, w0.k = some q → ∀ id gh, q.ι id = some gh → ids[id]? = some id) (hnc : NoCond S.tmps) (hg : Gam E w0 ro0 S a w ι ro) :
    NoCond (renT ids kept) ∧ Gam E w0 ro0 ⟨S.n, renT ids kept, renOs S.objs ids ids 0, ids.length⟩ a w (fun j => (ids[j]?).bind ι) ro := by
  refine ⟨noCond_renT _, ⟨hg.base.below, hg.base.rolt, hg.base.ronew, fun id gh k h1 h2 => ?_, hg.base.defers, (fun q hq => ⟨(hg.base.keep q hq).1, fun id gh h => by simp only [hio q hq id gh h]; exact (hg.base.keep q hq).2 id gh h⟩), fun k o h => ⟨(hg.base.held k o h).1, fun id gh h1 h2 => by cases hj : ids[id]? with | none => (simp only [hj] at h1; cases h1) | some i => (simp only [hj] at h1; exact (hg.base.held k o h).2 i gh h1 h2)⟩⟩, hg.size, fun t y hl => ?_, fun id o hl => ?_, ?_, fun id h => ?_, fun id o hl => ?_⟩
  · cases hj : ids[id]? with
    | none => simp only [hj] at h1; cases h1
    | some i => simp only [hj] at h1; exact hg.base.ilt i gh k h1 h2
  · obtain ⟨x, hx, rfl⟩ := look_renT hl
    obtain ⟨z, hz, rfl⟩ := hkept _ _ hx
    obtain ⟨v, hv, hs⟩ := hg.tmps t z hz
    have hc : isCond z = false := hnc _ (look_mem _ _ _ hz)
    have hr : Rep E w ro ι v z := by cases z <;> first | exact hs | cases hc
    refine ⟨v, hv, ?_⟩
    have h2 := renV_rep (ids := ids) (plainV_rep (objs := S.objs) hr)
    have h3 : isCond (renV ids (plainV S.objs z)) = false := by
      have := noCond_renT (ids := ids) [(0, plainV S.objs z)]
      exact this (0, renV ids (plainV S.objs z)) List.mem_cons_self
    show SRep E w ro _ a.tmps v (renV ids (plainV S.objs z))
    generalize renV ids (plainV S.objs z) = y at h2 h3
    cases y <;> first | exact h2 | cases h3
  · obtain ⟨i, _, hi, h⟩ := look_renOs hl
    simp only [Nat.sub_zero] at hi
    rcases h with rfl | ⟨o', ho', rfl⟩
    · trivial
    · have h := hg.objs i o' ho'
      have hi' : (fun j => (ids[j]?).bind ι) id = ι i := by
        show (ids[id]?).bind ι = ι i
        rw [hi]; rfl
      cases o' with
      | dead => trivial
      | tail l =>
        intro hl
        obtain ⟨gh, xs, h1, h2, h3⟩ := h hl
        exact ⟨gh, xs, hi'.trans h1, h2, h3⟩
      | dfr =>
        obtain ⟨gh, g, h1, h2⟩ := h
        exact ⟨gh, g, hi'.trans h1, h2⟩
      | arr t l fz =>
        obtain ⟨h0, gh, g, vs, ty, h1, h2, hb, h3, h4, h5, h6⟩ := h
        exact ⟨h0, gh, g, vs, ty, hi'.trans h1, h2, hb, h3, h4, fun j v c hv hc => ⟨(h5 j v c hv hc).1, arrC_rep (h5 j v c hv hc).2 hc⟩, h6⟩
      | lp _ _ _ _ _ _ _ => trivial
      | mp K V l =>
        obtain ⟨gh, g, es, h1, h2, h3, h4, h5, h6⟩ := h
        refine ⟨gh, g, es, hi'.trans h1, h2, h3, by simpa using h4, by simpa using h5, fun j e x he hx => ?_⟩
        rw [List.getElem?_map] at hx
        cases hl' : l[j]? with
        | none => rw [hl'] at hx; cases hx
        | some y =>
          rw [hl'] at hx
          cases hx
          obtain ⟨k1, k2, k3, k4⟩ := h6 j e y he hl'
          refine ⟨k1, k2, by simpa using k3, fun i v c hv hc => ⟨?_, map_rep (fun j v c hv hc => (k4 j v c hv hc).2) i v c hv hc⟩⟩
          have hj : i < y.2.length := by have := (List.getElem?_eq_some_iff.1 hc).1; simpa using this
          exact (k4 i v _ hv (List.getElem?_eq_getElem hj)).1
      | row t l =>
        obtain ⟨gh, xs, h1, h2⟩ := h
        exact ⟨gh, xs, hi'.trans h1, h2⟩
      | box cs =>
        obtain ⟨gh, g, vs, ty, h1, h2, hb, h3, h4, h5, h6⟩ := h
        exact ⟨gh, g, vs, ty, hi'.trans h1, h2, hb, h3, by simp [h4], fun j v c hv hc => ⟨by
          have hj : j < cs.length := by have := (List.getElem?_eq_some_iff.1 hc).1; simpa using this
          exact (h5 j v _ hv (List.getElem?_eq_getElem hj)).1, map_rep (fun j v c hv hc => (h5 j v c hv hc).2) j v c hv hc⟩, h6⟩
  · intro id id' o o' gh gh' k hl hl' l1 l2 i1 i2 b1 b2
    obtain ⟨i, _, hi, h⟩ := look_renOs hl
    obtain ⟨i', _, hi', h'⟩ := look_renOs hl'
    simp only [Nat.sub_zero] at hi hi'
    rcases h with rfl | ⟨q, hq, rfl⟩
    · cases l1
    rcases h' with rfl | ⟨q', hq', rfl⟩
    · cases l2
    have e1 : q.live = true := by cases q <;> first | exact l1 | cases l1
    have e2 : q'.live = true := by cases q' <;> first | exact l2 | cases l2
    simp only at i1 i2
    have i1' : (ids[id]?).bind ι = some gh := i1
    have i2' : (ids[id']?).bind ι = some gh' := i2
    rw [show ids[id]? = some i from hi] at i1'
    rw [show ids[id']? = some i' from hi'] at i2'
    have := hg.inj i i' q q' gh gh' k hq hq' e1 e2 i1' i2' b1 b2
    subst this
    have hlt := (List.getElem?_eq_some_iff.1 hi).1
    have hlt' := (List.getElem?_eq_some_iff.1 hi').1
    exact (List.getElem?_inj hlt hnd).1 (hi.trans hi'.symm)
  · have h' : ids.length ≤ id := h
    show (ids[id]?).bind ι = none
    rw [List.getElem?_eq_none h']
    rfl
  · obtain ⟨i, _, hi, _⟩ := look_renOs hl
    simp only [Nat.sub_zero] at hi
    exact (List.getElem?_eq_some_iff.1 hi).1
theorem addN_pre {l : List Nat} {i j x : Nat} (h : l[j]? = some x) : (addN l i)[j]? = some x := by
  unfold addN
  split
  · exact h
  · rw [List.getElem?_append_left (List.getElem?_eq_some_iff.1 h).1]; exact h
theorem addAll_pre {j x : Nat} : ∀ {m l : List Nat}, l[j]? = some x → (addAll l m)[j]? = some x
  | [], _, h => h
  | _ :: r, _, h => addAll_pre (m := r) (addN_pre h)
def KOk (own : Nat) (w0 : Start) : Prop := ∀ q, w0.k = some q → ∀ id gh, q.ι id = some gh → id < own
theorem KOk.none {own : Nat} {w0 : Start} (h : w0.k = none) : KOk own w0 := fun q hq => by rw [h] at hq; cases hq
theorem headS_sound (own : Nat) (live : List Nat) (hio : KOk own w0) (hnc : NoCond S.tmps) (hg : Gam E w0 ro0 S a w ι ro) : ∃ ι', NoCond (headS own live S).tmps ∧ Gam E w0 ro0 (headS own live S) a w ι' ro :=
  ⟨_, ren_sound _ (addAll_nodup (addAll_nodup List.nodup_range)) (keepT S live) (fun _ _ h => look_keepT h) (fun q hq id gh h => addAll_pre (addAll_pre (by rw [List.getElem?_range (hio q hq id gh h)]))) hnc hg⟩
end
section
variable {P : Program} {E : Env P} {O : Oracle E} {w0 : Start} {ro0 : Nat → Nat → Prop}
theorem evRegL_sound {R : Type} (hO : OracleOk E O) (hmix : P.follows .mixedOrders = true) {S : ASt E} {a : Act} {w : World} {ι : Nat → Option Gh} {ro : Nat → Nat → Prop} (hnc : NoCond S.tmps) (hg : Gam E w0 ro0 S a w ι ro) {k : ASt E → Option R} {rr : R} {Q : Exit → Act → World → Prop} {b dr : Bool} {ops : Array Oper} {id : Nat}
    (hk : ∀ S' a' w' ι' ro', NoCond S'.tmps → Gam E w0 ro0 S' a' w' ι' ro' → S'.n = S.n → k S' = some rr → Q .normal a' w') (h : evRegL b O ops dr S k = some rr) : (Code.region id ops dr).wp P Q a w := by
  have old : evReg O ops dr S k = some rr → (Code.region id ops dr).wp P Q a w := fun h => by
    cases dr with
    | true => exact evDraw_sound (n := S.n) (glob := S.tmps) (objs := S.objs) (next := S.next) hO hmix hnc hg hk h
    | false => exact wp_region_list (evSeq_sound (n := S.n) (glob := S.tmps) hO hnc hk ops.toList [] S.objs S.next a w ι ro hg h)
  unfold evRegL at h
  split at h
  · exact evLast_sound hO hmix hnc hg hk h
  · exact old h
end
end
end Go.Proofs.YtiahkjjfhnfdiaaGreatDoor.Mir
namespace Go.Proofs.YtiahkjjfhnfdiaaGreatDoor.Mir
open Go Go.RowKit
noncomputable section
section
variable {P : Program} {E : Env P}
def valA (S : ASt E) (r : ResultVar) : Option (AV E) := match r with
  | .tmp q => some (slotA [] (look S.tmps q))
  | .cell q ty => evLoad S.objs ty (slotA [] (look S.tmps q))
def resA (S : ASt E) : List ResultVar → List TypeId → Option (List (TV E))
  | [], [] => some []
  | r :: rs, T :: Ts => match E.code T with
    | some t => match valA S r with
      | some v => match foldA t v with
        | some x => match resA S rs Ts with
          | some xs => some (⟨t, x⟩ :: xs)
          | none => none
        | none => none
      | none => none
    | none => none
  | _, _ => none
def argsT : List (TV E) → Nat → List (Nat × AV E)
  | [], _ => []
  | ⟨t, x⟩ :: r, i => (i, expandA t x) :: argsT r (i + 1)
def startS (fn : Func) (args : List (TV E)) : ASt E := ⟨args.length + (fn.ntmps - args.length), argsT args 0, [], 0⟩
def endK (fn : Func) (e : AExit) (S : ASt E) : Option (List (TV E)) := match e with
  | .exit _ => none
  | .goto _ => none
  | _ => resA (freezeS S) fn.results.toList fn.resultTypes.toList
def runE (O : Oracle E) (h : Hint E) (G : Nat → ASt E → Option (List (TV E))) (fn : Func) (args : List (TV E)) : Option (List (TV E)) := match fn.body with
  | some c => evCode O h G 0 c (startS fn args) (endK fn)
  | none => none
def runL (O : Oracle E) (h : Hint E) (G : Nat → ASt E → Option (List (TV E))) (fn : Func) (j : Nat) (S : ASt E) : Option (List (TV E)) := match fn.body with
  | some c => segC O h G c j S (endK fn)
  | none => none
end
section
variable {P : Program}
def LoopWp (P : Program) (c : Code) (Q : Exit → Act → World → Prop) (a : Act) (w : World) : Prop :=
  ∀ b k cs, ∃ e a' w', Q e a' w' ∧ Arrives P (lone (b.at a (.code c :: .inLoop c :: k)) cs w) b k cs e a' w'
theorem LoopWp.wp {c : Code} {Q : Exit → Act → World → Prop} {a : Act} {w : World} (h : LoopWp P c Q a w) : (Code.loop c).wp P Q a w := by
  intro b k cs
  obtain ⟨e, a', w', hq, harr⟩ := h b k cs
  exact ⟨e, a', w', hq, .of_steps (.one step_loop) harr⟩
theorem LoopWp.round {c : Code} {Q : Exit → Act → World → Prop} {a : Act} {w : World} (h : c.wp P (Exit.then (LoopWp P c Q) Q) a w) : LoopWp P c Q a w := by
  intro b k cs
  obtain ⟨e, a₁, w₁, hq, harr⟩ := h b (.inLoop c :: k) cs
  cases e with
  | normal =>
    obtain ⟨e₂, a₂, w₂, hq₂, harr₂⟩ := hq b k cs
    exact ⟨e₂, a₂, w₂, hq₂, .of_steps (Steps.trans harr (.one step_inLoop)) harr₂⟩
  | exit id => exact ⟨_, a₁, w₁, hq, .pass (x := .inLoop c) rfl (fun _ _ => .inl (by simp)) harr⟩
  | goto l => exact ⟨_, a₁, w₁, hq, .pass (x := .inLoop c) rfl (fun _ _ => .inl (by simp)) harr⟩
  | ret => exact ⟨_, a₁, w₁, hq, .pass (x := .inLoop c) rfl (fun _ _ => .inl (by simp)) harr⟩
  | panic ch => exact ⟨_, a₁, w₁, hq, .pass (x := .inLoop c) rfl (fun _ _ => .inl (by simp)) harr⟩
  | outgrown => exact ⟨_, a₁, w₁, hq, .pass (x := .inLoop c) rfl (fun _ _ => .inl (by simp)) harr⟩
def JumpWp (P : Program) (c rest : Code) (Q : Exit → Act → World → Prop) (a : Act) (w : World) : Prop :=
  ∀ b k cs, ∃ e a' w', Q e a' w' ∧ Arrives P (lone (b.at a (.code rest :: .inScope c :: k)) cs w) b k cs e a' w'
def scPost (P : Program) (c : Code) (Q : Exit → Act → World → Prop) : Exit → Act → World → Prop
  | .goto l, a, w => ∃ rest, findLabel c l = some rest ∧ JumpWp P c rest Q a w
  | e, a, w => Q e a w
theorem JumpWp.of {c rest : Code} {Q : Exit → Act → World → Prop} {a : Act} {w : World} (h : rest.wp P (scPost P c Q) a w) : JumpWp P c rest Q a w := by
  intro b k cs
  obtain ⟨e, a₁, w₁, hq, harr⟩ := h b (.inScope c :: k) cs
  cases e with
  | normal => exact ⟨.normal, a₁, w₁, hq, Steps.trans harr (.one step_inScope)⟩
  | exit id => exact ⟨.exit id, a₁, w₁, hq, fun k' hk => harr k' (by simp [exitTo, hk])⟩
  | goto l' =>
    obtain ⟨rest', hf, hJ⟩ := hq
    have hg : gotoIn l' (.inScope c :: k) = some (.code rest' :: .inScope c :: k) := by simp [gotoIn, hf]
    obtain ⟨e₂, a₂, w₂, hq₂, harr₂⟩ := hJ b k cs
    exact ⟨e₂, a₂, w₂, hq₂, .of_steps (harr _ hg) harr₂⟩
  | ret => exact ⟨_, a₁, w₁, hq, harr⟩
  | panic ch => exact ⟨_, a₁, w₁, hq, harr⟩
  | outgrown => exact ⟨_, a₁, w₁, hq, harr⟩
theorem wp_scopeJ {c : Code} {Q : Exit → Act → World → Prop} {a : Act} {w : World} (h : c.wp P (scPost P c Q) a w) : (Code.scope c).wp P Q a w := by
  intro b k cs
  obtain ⟨e, a₁, w₁, hq, harr⟩ := h b (.inScope c :: k) cs
  cases e with
  | normal => exact ⟨.normal, a₁, w₁, hq, .head step_scope (Steps.trans harr (.one step_inScope))⟩
  | exit id => exact ⟨.exit id, a₁, w₁, hq, fun k' hk => .head step_scope (harr k' (by simp [exitTo, hk]))⟩
  | goto l' =>
    obtain ⟨rest', hf, hJ⟩ := hq
    have hg : gotoIn l' (.inScope c :: k) = some (.code rest' :: .inScope c :: k) := by simp [gotoIn, hf]
    obtain ⟨e₂, a₂, w₂, hq₂, harr₂⟩ := hJ b k cs
    exact ⟨e₂, a₂, w₂, hq₂, .of_steps (.head step_scope (harr _ hg)) harr₂⟩
  | ret => exact ⟨_, a₁, w₁, hq, .of_steps (.one step_scope) harr⟩
  | panic ch => exact ⟨_, a₁, w₁, hq, .of_steps (.one step_scope) harr⟩
  | outgrown => exact ⟨_, a₁, w₁, hq, .of_steps (.one step_scope) harr⟩
def scopeAt (P : Program) : Code → (Exit → Act → World → Prop) → Option (Code × (Exit → Act → World → Prop))
  | .scope c, Q => some (c, Q)
  | .seq x y, Q => (match hasScope x with
    | true => scopeAt P x (Exit.then (y.wp P Q) Q)
    | false => scopeAt P y Q)
  | .block id b, Q => scopeAt P b (Exit.inBlock id Q)
  | _, _ => none
def contAt (P : Program) : Code → Nat → (Exit → Act → World → Prop) → Option (Code × (Exit → Act → World → Prop))
  | .loop b, 0, Q => some (b, Q)
  | .loop b, j + 1, Q => contAt P b j (Exit.then (LoopWp P b Q) Q)
  | .seq x y, j, Q => match Nat.blt j (nloops x) with
    | true => contAt P x j (Exit.then (y.wp P Q) Q)
    | false => contAt P y (j - nloops x) Q
  | .cond _ x y, j, Q => match Nat.blt j (nloops x) with
    | true => contAt P x j Q
    | false => contAt P y (j - nloops x) Q
  | .block id b, j, Q => contAt P b j (Exit.inBlock id Q)
  | .scope b, j, Q => (match noGo b with
    | true => contAt P b j (Exit.noGoto Q)
    | false => none)
  | _, _, _ => none
def Placed (P : Program) (c0 : Code) (Q0 : Exit → Act → World → Prop) (i : Nat) (c : Code) (Q : Exit → Act → World → Prop) : Prop :=
  ∀ j, j < nloops c → contAt P c0 (i + j) Q0 = contAt P c j Q
theorem blt_true {a b : Nat} (h : a < b) : Nat.blt a b = true := by simpa [Nat.blt_eq] using h
theorem blt_false {a b : Nat} (h : b ≤ a) : Nat.blt a b = false := by
  cases hb : Nat.blt a b with
  | false => rfl
  | true => rw [Nat.blt_eq] at hb; omega
section
variable {c0 : Code} {Q0 Q : Exit → Act → World → Prop} {i : Nat}
theorem Placed.seq {x y : Code} (h : Placed P c0 Q0 i (.seq x y) Q) : Placed P c0 Q0 i x (Exit.then (y.wp P Q) Q) ∧ Placed P c0 Q0 (i + nloops x) y Q := by
  refine ⟨fun j hj => ?_, fun j hj => ?_⟩
  · rw [h j (by show j < nloops x + nloops y; omega)]
    simp only [contAt, blt_true hj]
  · rw [Nat.add_assoc, h (nloops x + j) (by show nloops x + j < nloops x + nloops y; omega)]
    simp only [contAt, blt_false (show nloops x ≤ nloops x + j by omega), Nat.add_sub_cancel_left]
theorem Placed.cond {c : Operand} {x y : Code} (h : Placed P c0 Q0 i (.cond c x y) Q) : Placed P c0 Q0 i x Q ∧ Placed P c0 Q0 (i + nloops x) y Q := by
  refine ⟨fun j hj => ?_, fun j hj => ?_⟩
  · rw [h j (by show j < nloops x + nloops y; omega)]
    simp only [contAt, blt_true hj]
  · rw [Nat.add_assoc, h (nloops x + j) (by show nloops x + j < nloops x + nloops y; omega)]
    simp only [contAt, blt_false (show nloops x ≤ nloops x + j by omega), Nat.add_sub_cancel_left]
theorem Placed.block {id : Nat} {b : Code} (h : Placed P c0 Q0 i (.block id b) Q) : Placed P c0 Q0 i b (Exit.inBlock id Q) := fun j hj => h j hj
theorem Placed.scope {b : Code} (hb : noGo b = true) (h : Placed P c0 Q0 i (.scope b) Q) : Placed P c0 Q0 i b (Exit.noGoto Q) := fun j hj => by
  rw [h j (by simp only [nloops, hb]; exact hj)]
  simp only [contAt, hb]
theorem Placed.head {b : Code} (h : Placed P c0 Q0 i (.loop b) Q) : contAt P c0 i Q0 = some (b, Q) := h 0 (by show 0 < nloops b + 1; omega)
theorem Placed.inner {b : Code} (h : Placed P c0 Q0 i (.loop b) Q) : Placed P c0 Q0 (i + 1) b (Exit.then (LoopWp P b Q) Q) := fun j hj => by
  rw [Nat.add_assoc, Nat.add_comm 1 j]
  exact h (j + 1) (by show j + 1 < nloops b + 1; omega)
theorem Placed.of_zero {c : Code} (h : nloops c = 0) : Placed P c0 Q0 i c Q := fun j hj => by omega
theorem Placed.whole : Placed P c0 Q0 0 c0 Q0 := fun j _ => by rw [Nat.zero_add]
end
end
section
variable {P : Program} {E : Env P} {O : Oracle E} {h : Hint E} {w0 : Start} {ro0 : Nat → Nat → Prop} {n : Nat} {c0 : Code} {Q0 : Exit → Act → World → Prop}
def HeadOk (E : Env P) (w0 : Start) (ro0 : Nat → Nat → Prop) (n : Nat) (c0 : Code) (Q0 : Exit → Act → World → Prop) (i : Nat) (S : ASt E) : Prop :=
  ∀ b Q, contAt P c0 i Q0 = some (b, Q) → ∀ a w ι ro, NoCond S.tmps → Gam E w0 ro0 S a w ι ro → S.n = n → LoopWp P b Q a w
def LabOk (E : Env P) (w0 : Start) (ro0 : Nat → Nat → Prop) (n : Nat) (c0 : Code) (Q0 : Exit → Act → World → Prop) (i : Nat) (S : ASt E) : Prop :=
  ∀ l, i = 100 + l → ∀ sc Q rest, scopeAt P c0 Q0 = some (sc, Q) → findLabel sc l = some rest → ∀ a w ι ro, NoCond S.tmps → Gam E w0 ro0 S a w ι ro → S.n = n → rest.wp P (scPost P sc Q) a w
def HdOk (E : Env P) (w0 : Start) (ro0 : Nat → Nat → Prop) (n : Nat) (c0 : Code) (Q0 : Exit → Act → World → Prop) (i : Nat) (S : ASt E) : Prop := HeadOk E w0 ro0 n c0 Q0 i S ∧ LabOk E w0 ro0 n c0 Q0 i S
theorem contAt_none : ∀ (c : Code) (j : Nat) (Q : Exit → Act → World → Prop), nloops c ≤ j → contAt P c j Q = none
  | .loop b, 0, Q, h => by simp [nloops] at h
  | .loop b, j + 1, Q, h => contAt_none b j _ (by simp only [nloops] at h; omega)
  | .seq x y, j, Q, h => by
    simp only [nloops] at h
    simp only [contAt, blt_false (show nloops x ≤ j by omega)]
    exact contAt_none y _ Q (by omega)
  | .cond _ x y, j, Q, h => by
    simp only [nloops] at h
    simp only [contAt, blt_false (show nloops x ≤ j by omega)]
    exact contAt_none y _ Q (by omega)
  | .block id b, j, Q, h => contAt_none b j _ (by simpa only [nloops] using h)
  | .skip, _, _, _ => rfl
  | .ret, _, _, _ => rfl
  | .exit _, _, _, _ => rfl
  | .region .., _, _, _ => rfl
  | .scope b, j, Q, h => by
    unfold contAt
    split
    · rename_i hb
      exact contAt_none b j _ (by simp only [nloops, hb] at h; exact h)
    · rfl
  | .label _, _, _, _ => rfl
  | .goto _, _, _, _ => rfl
  | .rangeFunc .., _, _, _ => rfl
  | .refuse _, _, _, _ => rfl
theorem headAt_sound (hh : Hint E) (i : Nat) (hio : KOk hh.own w0) {S : ASt E} {a : Act} {w : World} {ι : Nat → Option Gh} {ro : Nat → Nat → Prop} (hnc : NoCond S.tmps) (hg : Gam E w0 ro0 S a w ι ro) (hn : S.n = n) :
    ∃ ι', NoCond (headAt hh i S).tmps ∧ Gam E w0 ro0 (headAt hh i S) a w ι' ro ∧ (headAt hh i S).n = n := by
  obtain ⟨ι1, hnc1, hg1, hn1⟩ := nilS_sound (atN hh.nils i) S ι hnc hg
  obtain ⟨ι', hnc', hg'⟩ := headS_sound hh.own (atN hh.live i) hio hnc1 hg1
  exact ⟨ι', hnc', hg', hn1.trans hn⟩
theorem evCode_sound {R : Type} (hO : OracleOk E O) (hmix : P.follows .mixedOrders = true) {G : Nat → ASt E → Option R} {rr : R} (hG : ∀ i S, G i S = some rr → KOk h.own w0 ∧ HdOk E w0 ro0 n c0 Q0 i S) :
    ∀ (c : Code) (i : Nat) (S : ASt E) (k : AExit → ASt E → Option R) (Q : Exit → Act → World → Prop) (a : Act) (w : World) (ι : Nat → Option Gh) (ro : Nat → Nat → Prop), Placed P c0 Q0 i c Q → (hasScope c = true → scopeAt P c Q = scopeAt P c0 Q0) →
    NoCond S.tmps → Gam E w0 ro0 S a w ι ro → S.n = n → evCode O h G i c S k = some rr →
    (∀ e S' a' w' ι' ro', NoCond S'.tmps → Gam E w0 ro0 S' a' w' ι' ro' → S'.n = n → k e S' = some rr → Q e.toExit a' w') → c.wp P Q a w := by
  intro c
  induction c with
  | skip => intro i S k Q a w ι ro _ _ hnc hg hn h hk; exact wp_skip (hk .normal S a w ι ro hnc hg hn h)
  | ret => intro i S k Q a w ι ro _ _ hnc hg hn h hk; exact wp_ret (hk .ret S a w ι ro hnc hg hn h)
  | exit id => intro i S k Q a w ι ro _ _ hnc hg hn h hk; exact wp_exit (hk (.exit id) S a w ι ro hnc hg hn h)
  | region id ops draw =>
    intro i S k Q a w ι ro _ _ hnc hg hn hh hk
    have go : ∀ (S : ASt E) (ro : Nat → Nat → Prop), NoCond S.tmps → Gam E w0 ro0 S a w ι ro → S.n = n → evRegL (memN h.lst id) O ops draw S (k .normal) = some rr → (Code.region id ops draw).wp P Q a w := fun S ro hnc hg hn hq =>
      evRegL_sound hO hmix hnc hg (fun S' a' w' ι' ro' h1 h2 h3 h4 => hk .normal S' a' w' ι' ro' h1 h2 (h3.trans hn) h4) hq
    simp only [evCode] at hh
    have fin : ∀ (l1 : List (Nat × Nat)) (l2 : List Nat) (S : ASt E) (ro : Nat → Nat → Prop), NoCond S.tmps → Gam E w0 ro0 S a w ι ro → S.n = n → splitK l1 (openS l2 S) (fun S' => evRegL (memN h.lst id) O ops draw S' (k .normal)) = some rr → (Code.region id ops draw).wp P Q a w := by
      intro l1 l2 S ro hnc hg hn h
      obtain ⟨ro1, g1, g2, g3⟩ := openS_sound l2 S ro hnc hg
      obtain ⟨S2, g4, g5, g6, g7⟩ := splitK_sound _ _ g1 g2 h
      exact go S2 ro1 g4 g5 (g6.trans (g3.trans hn)) g7
    split at hh
    · obtain ⟨h1, h2⟩ := freezeS_sound hnc hg
      obtain ⟨roA, a1, a2, a3⟩ := arrS_sound (atN h.arr id) (freezeS S) _ h1 h2
      exact fin _ _ _ roA a1 a2 (a3.trans hn) hh
    · obtain ⟨roA, a1, a2, a3⟩ := arrS_sound (atN h.arr id) S ro hnc hg
      exact fin _ _ _ roA a1 a2 (a3.trans hn) hh
  | seq x y ihx ihy =>
    intro i S k Q a w ι ro hp hs hnc hg hn h hk
    simp only [evCode] at h
    split at h
    · cases h
    · rename_i hxy
      have sx : hasScope x = true → scopeAt P x (Exit.then (y.wp P Q) Q) = scopeAt P c0 Q0 := fun hx => by
        rw [← hs (by simp only [hasScope, hx, Bool.true_or])]
        simp only [scopeAt, hx]
      have sy : hasScope y = true → scopeAt P y Q = scopeAt P c0 Q0 := fun hy => by
        have hx : hasScope x = false := by
          cases hq : hasScope x with
          | false => rfl
          | true => rw [hq, hy] at hxy; cases hxy
        rw [← hs (by simp only [hasScope, hy, Bool.or_true])]
        simp only [scopeAt, hx]
      refine wp_seq (ihx i S _ _ a w ι ro hp.seq.1 sx hnc hg hn h fun e S' a' w' ι' ro' h1 h2 h3 h4 => ?_)
      cases e with
      | normal => exact ihy _ S' k Q a' w' ι' ro' hp.seq.2 sy h1 h2 h3 h4 hk
      | exit id => exact hk (.exit id) S' a' w' ι' ro' h1 h2 h3 h4
      | ret => exact hk .ret S' a' w' ι' ro' h1 h2 h3 h4
      | goto l => exact hk (.goto l) S' a' w' ι' ro' h1 h2 h3 h4
  | cond c x y ihx ihy =>
    intro i S k Q a w ι ro hp _ hnc hg hn h hk
    have hc := getA_rep (E := E) (asm := []) hg.tmps (fun j b hb => by simp [hasAsm] at hb) c
    simp only [evCode] at h
    split at h
    · cases h
    · rename_i hxy
      rw [Bool.or_eq_false_iff] at hxy
      split at h
      · rename_i b hb
        rw [hb] at hc
        have hc := hc.bool_inv
        cases b with
        | true => exact wp_cond_true hc (ihx i S k Q a w ι ro hp.cond.1 (fun e => by rw [hxy.1] at e; cases e) hnc hg hn h hk)
        | false => exact wp_cond_false hc (ihy _ S k Q a w ι ro hp.cond.2 (fun e => by rw [hxy.2] at e; cases e) hnc hg hn h hk)
      · cases h
  | block id body ih =>
    intro i S k Q a w ι ro hp hs hnc hg hn h hk
    refine wp_block (ih i S _ _ a w ι ro hp.block hs hnc hg hn h fun e S' a' w' ι' ro' h1 h2 h3 h4 => ?_)
    cases e with
    | goto l => exact hk (.goto l) S' a' w' ι' ro' h1 h2 h3 h4
    | normal => exact hk .normal S' a' w' ι' ro' h1 h2 h3 h4
    | ret => exact hk .ret S' a' w' ι' ro' h1 h2 h3 h4
    | exit i =>
      simp only [AExit.toExit, Exit.inBlock, blockK] at h4 ⊢
      cases hb : Nat.beq i id with
      | true =>
        rw [hb] at h4
        rw [if_pos (Nat.eq_of_beq_eq_true hb)]
        exact hk .normal S' a' w' ι' ro' h1 h2 h3 h4
      | false =>
        rw [hb] at h4
        rw [if_neg (fun e => by subst e; simp at hb)]
        exact hk (.exit i) S' a' w' ι' ro' h1 h2 h3 h4
  | loop body ih =>
    intro i S k Q a w ι ro hp _ hnc hg hn hh hk
    obtain ⟨ι', h1, h2, h3⟩ := headAt_sound h i (hG i _ hh).1 hnc hg hn
    exact ((hG i _ hh).2.1 body Q hp.head a w ι' ro h1 h2 h3).wp
  | label l => intro i S k Q a w ι ro _ _ hnc hg hn h hk; exact wp_label (hk .normal S a w ι ro hnc hg hn h)
  | goto l => intro i S k Q a w ι ro _ _ hnc hg hn h hk; exact wp_goto (hk (.goto l) S a w ι ro hnc hg hn h)
  | scope c ih =>
    intro i S k Q a w ι ro hp hs hnc hg hn hh hk
    simp only [evCode] at hh
    split at hh
    · rename_i hng
      refine wp_scope_straight (ih i S (noGoK k) (Exit.noGoto Q) a w ι ro (hp.scope hng) (fun e => by rw [noGo_scope c hng] at e; cases e) hnc hg hn hh fun e S' a' w' ι' ro' h1 h2 h3 h4 => ?_)
      cases e with
      | normal => exact hk .normal S' a' w' ι' ro' h1 h2 h3 h4
      | exit id => exact hk (.exit id) S' a' w' ι' ro' h1 h2 h3 h4
      | ret => exact hk .ret S' a' w' ι' ro' h1 h2 h3 h4
      | goto l => cases h4
    rename_i hng
    have hs1 : hasScope (.scope c) = true := by simp only [hasScope, hng, Bool.not_false]
    split at hh
    · rename_i hns hz
      refine wp_scopeJ (ih i S _ _ a w ι ro (Placed.of_zero hz) (fun e => by rw [hns] at e; cases e) hnc hg hn hh fun e S' a' w' ι' ro' h1 h2 h3 h4 => ?_)
      cases e with
      | normal => exact hk .normal S' a' w' ι' ro' h1 h2 h3 h4
      | exit id => exact hk (.exit id) S' a' w' ι' ro' h1 h2 h3 h4
      | ret => exact hk .ret S' a' w' ι' ro' h1 h2 h3 h4
      | goto l =>
        simp only [scopeK] at h4
        split at h4
        · rename_i rest hf
          obtain ⟨ι2, g1, g2, g3⟩ := headAt_sound h (100 + l) (hG _ _ h4).1 h1 h2 h3
          exact ⟨rest, hf, JumpWp.of ((hG _ _ h4).2.2 l rfl c Q rest (hs hs1).symm hf a' w' ι2 ro' g1 g2 g3)⟩
        · cases h4
    · cases hh
  | _ => intro i S k Q a w ι ro _ _ hnc hg hn h hk; cases h
theorem ctxK_sound {R : Type} (hO : OracleOk E O) (hmix : P.follows .mixedOrders = true) {G : Nat → ASt E → Option R} {rr : R} (hG : ∀ i S, G i S = some rr → KOk h.own w0 ∧ HdOk E w0 ro0 n c0 Q0 i S) :
    ∀ (c : Code) (i j : Nat) (k : AExit → ASt E → Option R) (Q : Exit → Act → World → Prop) (i' : Nat) (b : Code) (k' : AExit → ASt E → Option R), Placed P c0 Q0 i c Q → hasScope c = false → ctxK O h G i c j k = some (i', b, k') →
    (∀ e S' a' w' ι' ro', NoCond S'.tmps → Gam E w0 ro0 S' a' w' ι' ro' → S'.n = n → k e S' = some rr → Q e.toExit a' w') →
    i' = i + j ∧ hasScope b = false ∧ ∃ Q', Placed P c0 Q0 i' (.loop b) Q' ∧ ∀ e S' a' w' ι' ro', NoCond S'.tmps → Gam E w0 ro0 S' a' w' ι' ro' → S'.n = n → k' e S' = some rr → Q' e.toExit a' w' := by
  intro c
  induction c with
  | seq x y ihx ihy =>
    intro i j k Q i' b k' hp hns hc hk
    simp only [ctxK] at hc
    split at hc
    · rename_i hj
      refine ihx i j _ _ i' b k' hp.seq.1 (Bool.or_eq_false_iff.1 hns).1 hc fun e S' a' w' ι' ro' h1 h2 h3 h4 => ?_
      cases e with
      | normal => exact evCode_sound hO hmix hG y _ S' k Q a' w' ι' ro' hp.seq.2 (fun e => by rw [(Bool.or_eq_false_iff.1 hns).2] at e; cases e) h1 h2 h3 h4 hk
      | goto l => exact hk (.goto l) S' a' w' ι' ro' h1 h2 h3 h4
      | exit id => exact hk (.exit id) S' a' w' ι' ro' h1 h2 h3 h4
      | ret => exact hk .ret S' a' w' ι' ro' h1 h2 h3 h4
    · rename_i hj
      have hle : nloops x ≤ j := by
        rcases Nat.lt_or_ge j (nloops x) with h | h
        · rw [blt_true h] at hj; cases hj
        · exact h
      obtain ⟨e1, rest⟩ := ihy _ _ k Q i' b k' hp.seq.2 (Bool.or_eq_false_iff.1 hns).2 hc hk
      exact ⟨by omega, rest⟩
  | cond c x y ihx ihy =>
    intro i j k Q i' b k' hp hns hc hk
    simp only [ctxK] at hc
    split at hc
    · exact ihx i j k Q i' b k' hp.cond.1 (Bool.or_eq_false_iff.1 hns).1 hc hk
    · rename_i hj
      have hle : nloops x ≤ j := by
        rcases Nat.lt_or_ge j (nloops x) with h | h
        · rw [blt_true h] at hj; cases hj
        · exact h
      obtain ⟨e1, rest⟩ := ihy _ _ k Q i' b k' hp.cond.2 (Bool.or_eq_false_iff.1 hns).2 hc hk
      exact ⟨by omega, rest⟩
  | scope c ih =>
    intro i j k Q i' b k' hp hns hc hk
    simp only [ctxK] at hc
    split at hc
    · rename_i hng
      refine ih i j (noGoK k) (Exit.noGoto Q) i' b k' (hp.scope hng) (noGo_scope c hng) hc fun e S' a' w' ι' ro' h1 h2 h3 h4 => ?_
      cases e with
      | normal => exact hk .normal S' a' w' ι' ro' h1 h2 h3 h4
      | exit id => exact hk (.exit id) S' a' w' ι' ro' h1 h2 h3 h4
      | ret => exact hk .ret S' a' w' ι' ro' h1 h2 h3 h4
      | goto l => cases h4
    · cases hc
  | block id body ih =>
    intro i j k Q i' b k' hp hns hc hk
    refine ih i j _ _ i' b k' hp.block hns hc fun e S' a' w' ι' ro' h1 h2 h3 h4 => ?_
    cases e with
    | goto l => exact hk (.goto l) S' a' w' ι' ro' h1 h2 h3 h4
    | normal => exact hk .normal S' a' w' ι' ro' h1 h2 h3 h4
    | ret => exact hk .ret S' a' w' ι' ro' h1 h2 h3 h4
    | exit i =>
      simp only [AExit.toExit, Exit.inBlock, blockK] at h4 ⊢
      cases hb : Nat.beq i id with
      | true =>
        rw [hb] at h4
        rw [if_pos (Nat.eq_of_beq_eq_true hb)]
        exact hk .normal S' a' w' ι' ro' h1 h2 h3 h4
      | false =>
        rw [hb] at h4
        rw [if_neg (fun e => by subst e; simp at hb)]
        exact hk (.exit i) S' a' w' ι' ro' h1 h2 h3 h4
  | loop body ih =>
    intro i j k Q i' b k' hp hns hc hk
    cases j with
    | zero =>
      cases hc
      exact ⟨rfl, hns, Q, hp, hk⟩
    | succ j =>
      obtain ⟨e1, rest⟩ := ih (i + 1) j _ _ i' b k' hp.inner hns hc fun e S' a' w' ι' ro' h1 h2 h3 h4 => (by
        cases e with
        | normal =>
          obtain ⟨ι2, g1, g2, g3⟩ := headAt_sound h i (hG i _ h4).1 h1 h2 h3
          exact (hG i _ h4).2.1 body Q hp.head a' w' ι2 ro' g1 g2 g3
        | exit id => exact hk (.exit id) S' a' w' ι' ro' h1 h2 h3 h4
        | goto l => exact hk (.goto l) S' a' w' ι' ro' h1 h2 h3 h4
        | ret => exact hk .ret S' a' w' ι' ro' h1 h2 h3 h4)
      exact ⟨by omega, rest⟩
  | _ => intro i j k Q i' b k' hp hns hc hk; cases hc
theorem ctxS_sound {R : Type} (hO : OracleOk E O) (hmix : P.follows .mixedOrders = true) {G : Nat → ASt E → Option R} {rr : R} (hG : ∀ i S, G i S = some rr → KOk h.own w0 ∧ HdOk E w0 ro0 n c0 Q0 i S) :
    ∀ (c : Code) (i : Nat) (k : AExit → ASt E → Option R) (Q : Exit → Act → World → Prop) (sc : Code) (k' : AExit → ASt E → Option R), Placed P c0 Q0 i c Q → ctxS O h G i c k = some (sc, k') →
    (∀ e S' a' w' ι' ro', NoCond S'.tmps → Gam E w0 ro0 S' a' w' ι' ro' → S'.n = n → k e S' = some rr → Q e.toExit a' w') →
    ∃ Q', scopeAt P c Q = some (sc, Q') ∧ ∀ e S' a' w' ι' ro', NoCond S'.tmps → Gam E w0 ro0 S' a' w' ι' ro' → S'.n = n → k' e S' = some rr → Q' e.toExit a' w' := by
  intro c
  induction c with
  | scope c ih =>
    intro i k Q sc k' hp hc hk
    cases hc
    exact ⟨Q, rfl, hk⟩
  | seq x y ihx ihy =>
    intro i k Q sc k' hp hc hk
    simp only [ctxS] at hc
    split at hc
    · rename_i hx hy
      simp only [scopeAt, hx]
      refine ihx i _ _ sc k' hp.seq.1 hc fun e S' a' w' ι' ro' h1 h2 h3 h4 => ?_
      cases e with
      | normal => exact evCode_sound hO hmix hG y _ S' k Q a' w' ι' ro' hp.seq.2 (fun e => by rw [hy] at e; cases e) h1 h2 h3 h4 hk
      | exit id => exact hk (.exit id) S' a' w' ι' ro' h1 h2 h3 h4
      | goto l => exact hk (.goto l) S' a' w' ι' ro' h1 h2 h3 h4
      | ret => exact hk .ret S' a' w' ι' ro' h1 h2 h3 h4
    · rename_i hx hy
      simp only [scopeAt, hx]
      exact ihy _ k Q sc k' hp.seq.2 hc hk
    · cases hc
  | block id body ih =>
    intro i k Q sc k' hp hc hk
    refine ih i _ _ sc k' hp.block hc fun e S' a' w' ι' ro' h1 h2 h3 h4 => ?_
    cases e with
    | normal => exact hk .normal S' a' w' ι' ro' h1 h2 h3 h4
    | goto l => exact hk (.goto l) S' a' w' ι' ro' h1 h2 h3 h4
    | ret => exact hk .ret S' a' w' ι' ro' h1 h2 h3 h4
    | exit i =>
      simp only [AExit.toExit, Exit.inBlock, blockK] at h4 ⊢
      cases hb : Nat.beq i id with
      | true =>
        rw [hb] at h4
        rw [if_pos (Nat.eq_of_beq_eq_true hb)]
        exact hk .normal S' a' w' ι' ro' h1 h2 h3 h4
      | false =>
        rw [hb] at h4
        rw [if_neg (fun e => by subst e; simp at hb)]
        exact hk (.exit i) S' a' w' ι' ro' h1 h2 h3 h4
  | _ => intro i k Q sc k' hp hc hk; cases hc
theorem segC_sound {R : Type} (hO : OracleOk E O) (hmix : P.follows .mixedOrders = true) {G : Nat → ASt E → Option R} {rr : R} (hG : ∀ i S, G i S = some rr → KOk h.own w0 ∧ HdOk E w0 ro0 n c0 Q0 i S) {j : Nat} {S : ASt E} {k : AExit → ASt E → Option R}
    (hk : ∀ e S' a' w' ι' ro', NoCond S'.tmps → Gam E w0 ro0 S' a' w' ι' ro' → S'.n = n → k e S' = some rr → Q0 e.toExit a' w') (hs : segC O h G c0 j S k = some rr) : HdOk E w0 ro0 n c0 Q0 j S := by
  unfold segC at hs
  split at hs
  · rename_i hj
    have hj := Nat.le_of_ble_eq_true hj
    split at hs
    · rename_i hn
      have hnl := Nat.le_of_ble_eq_true hn
      refine ⟨fun b Q hc => ?_, fun l hl sc Q rest hsc hf a w ι ro hnc hg hn => ?_⟩
      · rw [contAt_none c0 j Q0 (by omega)] at hc; cases hc
      · unfold segS at hs
        split at hs
        · rename_i sc2 k2 hc
          obtain ⟨Q2, q1, q2⟩ := ctxS_sound hO hmix hG c0 0 k Q0 sc2 k2 Placed.whole hc hk
          rw [hsc] at q1
          cases q1
          subst hl
          rw [Nat.add_sub_cancel_left, hf] at hs
          simp only at hs
          split at hs
          · rename_i hns hz
            refine evCode_sound hO hmix hG rest 0 S _ _ a w ι ro (Placed.of_zero hz) (fun e => by rw [hns] at e; cases e) hnc hg hn hs fun e S' a' w' ι' ro' h1 h2 h3 h4 => ?_
            cases e with
            | normal => exact q2 .normal S' a' w' ι' ro' h1 h2 h3 h4
            | exit id => exact q2 (.exit id) S' a' w' ι' ro' h1 h2 h3 h4
            | ret => exact q2 .ret S' a' w' ι' ro' h1 h2 h3 h4
            | goto l =>
              simp only [scopeK] at h4
              split at h4
              · rename_i rest2 hf2
                obtain ⟨ι2, g1, g2, g3⟩ := headAt_sound h (100 + l) (hG _ _ h4).1 h1 h2 h3
                exact ⟨rest2, hf2, JumpWp.of ((hG _ _ h4).2.2 l rfl sc Q rest2 hsc hf2 a' w' ι2 ro' g1 g2 g3)⟩
              · cases h4
          · cases hs
        · cases hs
    · cases hs
  rename_i hj
  split at hs
  · cases hs
  rename_i hns
  split at hs
  · rename_i i b k' hc
    refine ⟨?_, fun l hl => absurd (Nat.ble_eq_true_of_le (show 100 ≤ j by omega)) (by rw [hj]; decide)⟩
    obtain ⟨e1, hnb, Q', hp, hk'⟩ := ctxK_sound hO hmix hG c0 0 j k Q0 i b k' Placed.whole hns hc hk
    rw [Nat.zero_add] at e1
    subst e1
    intro b2 Q2 hc2 a w ι ro hnc hg hn
    rw [hp.head] at hc2
    cases hc2
    refine LoopWp.round (evCode_sound hO hmix hG b (i + 1) S _ _ a w ι ro hp.inner (fun e => by rw [hnb] at e; cases e) hnc hg hn hs fun e S' a' w' ι' ro' h1 h2 h3 h4 => ?_)
    cases e with
    | normal =>
      obtain ⟨ι2, g1, g2, g3⟩ := headAt_sound h i (hG i _ h4).1 h1 h2 h3
      exact (hG i _ h4).2.1 b Q' hp.head a' w' ι2 ro' g1 g2 g3
    | exit id => exact hk' (.exit id) S' a' w' ι' ro' h1 h2 h3 h4
    | goto l => exact hk' (.goto l) S' a' w' ι' ro' h1 h2 h3 h4
    | ret => exact hk' .ret S' a' w' ι' ro' h1 h2 h3 h4
  · cases hs
theorem argsT_look : ∀ {args : List (TV E)} {i t : Nat} {x : AV E}, look (argsT args i) t = some x → i ≤ t ∧ ∃ y, args[t - i]? = some y ∧ x = expandA y.1 y.2
  | [], _, _, _, h => by cases h
  | ⟨ty, y⟩ :: r, i, t, x, h => by
    simp only [argsT, look_nil, look_cons] at h
    split at h
    · rename_i hb
      have := Nat.eq_of_beq_eq_true hb
      subst this
      cases h
      exact ⟨Nat.le_refl _, ⟨ty, y⟩, by simp, rfl⟩
    · rename_i hb
      obtain ⟨h1, z, h2, h3⟩ := argsT_look h
      exact ⟨by omega, z, by rw [show t - i = (t - (i + 1)) + 1 from by omega]; simpa using h2, h3⟩
theorem expandA_noCond {t : E.Ty} {x : E.Den t} : isCond (expandA t x) = false := by
  unfold expandA
  split
  · rfl
  · split <;> rfl
theorem argsT_noCond : ∀ (args : List (TV E)) (i : Nat), NoCond (argsT args i)
  | [], _ => fun p h => by cases h
  | ⟨t, x⟩ :: r, i => fun p h => by
    cases h with
    | head => exact expandA_noCond
    | tail _ h => exact argsT_noCond r (i + 1) p h
def resV (tmps : Array Value) : ResultVar → Sem Value
  | .tmp t => pure (tmps.getD t undef)
  | .cell q ty => do loadVar ty (← asAddr (tmps.getD q undef))
theorem valA_rep {S : ASt E} {a : Act} {w : World} {ι : Nat → Option Gh} {ro : Nat → Nat → Prop} (hg : Gam E w0 ro0 S a w ι ro) {r : ResultVar} {x : AV E} (h : valA S r = some x) :
    ∃ v, (resV a.tmps r).run P w = .ok v w ∧ Rep E w ro ι v x := by
  have hasm : AsmOk a [] := fun j b hb => by simp [hasAsm] at hb
  cases r with
  | tmp t =>
    cases h
    exact ⟨_, rfl, getA_rep (E := E) hg.tmps hasm (.tmp t)⟩
  | cell q ty =>
    have hv := getA_rep (E := E) hg.tmps hasm (.tmp q)
    change Rep E w ro ι (a.tmps.getD q undef) (slotA [] (look S.tmps q)) at hv
    generalize hu : a.tmps.getD q undef = u at hv
    obtain ⟨val, hrun, hr⟩ := run_load_done (S := S) hg.objs hv h
    refine ⟨val, ?_, hr⟩
    show (do loadVar ty (← asAddr (a.tmps.getD q undef)) : Sem Value).run P w = _
    rw [hu]
    simp only [Instr.loadAt, Sem.run_bind] at hrun ⊢
    cases u with
    | pointer p =>
      cases p with
      | some ad => simpa [Instr.sureAddr, asAddr] using hrun
      | none => simp [Instr.sureAddr, stuck, Result.andThen] at hrun
    | _ => simp [Instr.sureAddr, stuck, Result.andThen] at hrun
theorem resA_rep {S : ASt E} {a : Act} {w : World} {ι : Nat → Option Gh} {ro : Nat → Nat → Prop} (hg : Gam E w0 ro0 S a w ι ro) : ∀ {rs : List ResultVar} {Ts : List TypeId} {xs : List (TV E)}, resA S rs Ts = some xs →
    ∃ vs : List Value, (rs.mapM (resV a.tmps)).run P w = Result.ok vs w ∧ ArgsRep E w ro vs xs
  | [], [], xs, h => by cases h; exact ⟨[], by simp, trivial⟩
  | r :: rs, T :: Ts, xs, h => by
    unfold resA at h
    split at h
    · rename_i t ht
      split at h
      · rename_i v hv
        split at h
        · rename_i x hx
          split at h
          · rename_i ys hys
            cases h
            obtain ⟨u, hu, hr⟩ := valA_rep hg hv
            obtain ⟨us, hus, hrs⟩ := resA_rep hg hys
            exact ⟨u :: us, by rw [List.mapM_cons]; simp only [Sem.run_bind, hu, Result.andThen_ok, hus, Sem.run_pure], foldA_rep hr hx, hrs⟩
          · cases h
        · cases h
      · cases h
    · cases h
  | [], _ :: _, _, h => by cases h
  | _ :: _, [], _, h => by cases h
theorem below_of_grown {w w' : World} (h : w.grownBy w' none) : Below w.heap.size w w' := ⟨h.os, h.tape, h.output, h.size, fun k hk => h.block k hk (fun e => by cases e)⟩
def EndOk (E : Env P) (fn : Func) (res : List (TV E)) (w : World) (ro : Nat → Nat → Prop) : Exit → Act → World → Prop :=
  bodyPost P fn fun e w' => ∃ v, e = .returned v ∧ Below w.heap.size w w' ∧ RetRep E w' (fun k o => ro k o ∨ (w.heap.size ≤ k ∧ k < w'.heap.size)) v res
theorem endK_sound {fn : Func} {res : List (TV E)} {w : World} {ro : Nat → Nat → Prop} {e : AExit} {S' : ASt E} {a' : Act} {w' : World} {ι' : Nat → Option Gh} {ro' : Nat → Nat → Prop} (hnc' : NoCond S'.tmps) (hg' : Gam E ⟨w, none, none, [], fun _ => none⟩ ro S' a' w' ι' ro') (hk : endK fn e S' = some res) :
    EndOk E fn res w ro e.toExit a' w' := by
  obtain ⟨_, hg'⟩ := freezeS_sound hnc' hg'
  generalize frzRo S'.objs ι' ro' = ro' at hg'
  have fin : resA (freezeS S') fn.results.toList fn.resultTypes.toList = some res → a'.defers = [] ∧ ∃ v, (results fn a'.tmps).run P w' = .ok v w' ∧
      (∃ v', Ending.returned v = .returned v' ∧ Below w.heap.size w w' ∧ RetRep E w' (fun k o => ro k o ∨ (w.heap.size ≤ k ∧ k < w'.heap.size)) v' res) := by
    intro hres
    obtain ⟨vs, hvs, hrep⟩ := resA_rep hg' hres
    have hmono : ArgsRep E w' (fun k o => ro k o ∨ (w.heap.size ≤ k ∧ k < w'.heap.size)) vs res := by
      have hmm : ∀ (vs : List Value) (rs : List (TV E)), ArgsRep E w' ro' vs rs → ArgsRep E w' (fun k o => ro k o ∨ (w.heap.size ≤ k ∧ k < w'.heap.size)) vs rs := by
        intro vs
        induction vs with
        | nil => intro rs h; cases rs <;> exact h
        | cons v vs ih =>
          intro rs h
          cases rs with
          | nil => exact h
          | cons r rs =>
            exact ⟨h.1.mono (fun k o hk => by
              rcases hg'.base.ronew k o hk with h | h
              · exact .inl h
              · rcases h with h | h
                · exact .inr ⟨h, hg'.base.rolt k o hk⟩
                · cases h) (fun _ _ _ => rfl), ih rs h.2⟩
      exact hmm vs res hrep
    have hl := (ArgsRep.at_ vs res hrep).1
    refine ⟨hg'.base.defers, if h : vs.length = 1 then vs[0] else .tuple vs.toArray, ?_, _, rfl, below_of_grown hg'.base.below, ?_⟩
    · show (do let vs ← fn.results.mapM (resV a'.tmps); pure (if h : vs.size = 1 then vs[0] else .tuple vs) : Sem Value).run P w' = _
      rw [Array.mapM_eq_mapM_toList]
      simp only [Sem.run_bind, Sem.run_map, hvs]
      simp [Result.andThen]
    · unfold RetRep
      split
      · rename_i t x
        match vs, hl, hmono with
        | [v], _, hm => exact hm.1
      · rename_i hne
        by_cases h1 : vs.length = 1
        · exfalso
          match res, hl.symm.trans h1, hne with
          | [⟨t, x⟩], _, hne => exact hne t x rfl
        · rw [dif_neg h1]
          exact ⟨vs, rfl, hmono⟩
  cases e with
  | normal => exact fin hk
  | ret => exact fin hk
  | exit id => cases hk
  | goto l => cases hk
def Ev (E : Env P) (fn : Func) (res : List (TV E)) (i : Nat) (S : ASt E) : Prop :=
  ∀ (w0 : World) ro0 n c, fn.body = some c → HdOk E ⟨w0, none, none, [], fun _ => none⟩ ro0 n c (EndOk E fn res w0 ro0) i S
open Classical in
def Gr (E : Env P) (fn : Func) (res : List (TV E)) (i : Nat) (S : ASt E) : Option (List (TV E)) := if Ev E fn res i S then some res else none
theorem Gr_of {fn : Func} {res : List (TV E)} {i : Nat} {S : ASt E} (h : Ev E fn res i S) : Gr E fn res i S = some res := if_pos h
theorem Gr_ev {fn : Func} {res r : List (TV E)} {i : Nat} {S : ASt E} (h : Gr E fn res i S = some r) : Ev E fn res i S := by
  unfold Gr at h
  split at h
  · assumption
  · cases h
theorem Ev.step (hO : OracleOk E O) (hmix : P.follows .mixedOrders = true) {fn : Func} {res : List (TV E)} {j : Nat} {S : ASt E} (hs : runL O h (Gr E fn res) fn j S = some res) : Ev E fn res j S := by
  intro w0 ro0 n c hc
  unfold runL at hs
  rw [hc] at hs
  exact segC_sound hO hmix (fun i S hi => ⟨.none rfl, Gr_ev hi w0 ro0 n c hc⟩) (fun e S' a' w' ι' ro' h1 h2 _ h4 => endK_sound h1 h2 h4) hs
theorem callsOk_of (hO : OracleOk E O) (hmix : P.follows .mixedOrders = true) {f : FuncId} {fn : Func} (hf : P.funcs[f]? = some fn) {args res : List (TV E)} (hr : runE O h (Gr E fn res) fn args = some res) : CallsOk E f args res := by
  unfold runE at hr
  split at hr
  · rename_i c hc
    intro w ro vals hargs hrolt
    obtain ⟨hlen, hat⟩ := ArgsRep.at_ vals args hargs
    refine calls_of_wp hf hc ?_
    have hg : Gam E ⟨w, none, none, [], fun _ => none⟩ ro (startS fn args) { tmps := vals.toArray ++ Array.replicate (fn.ntmps - vals.toArray.size) undef, defers := [] } w (fun _ => none) ro := {
      base := ⟨⟨rfl, rfl, rfl, Nat.le_refl _, fun _ _ _ => rfl⟩, hrolt, fun k o h => .inl h, (fun id gh k h => by cases h), rfl, (fun q h => by cases h), (fun k o h => by cases h)⟩
      size := by simp [startS, hlen]
      tmps := fun t x hl => by
        obtain ⟨_, y, hy, rfl⟩ := argsT_look hl
        rw [Nat.sub_zero] at hy
        have hlt : t < vals.length := by rw [hlen]; exact (List.getElem?_eq_some_iff.1 hy).1
        have hv := List.getElem?_eq_getElem hlt
        refine ⟨vals[t], by simp [Array.getElem?_append, hlt], ?_⟩
        have hr : Rep E w ro (fun _ => none) vals[t] (expandA y.1 y.2) := expandA_rep (hat t _ y hv hy)
        have hc := expandA_noCond (E := E) (t := y.1) (x := y.2)
        generalize expandA y.1 y.2 = z at hr hc
        cases z <;> first | exact hr | cases hc
      objs := fun id o hl => by cases hl
      inj := fun id id' o o' gh gh' k hl => by cases hl
      fresh := fun _ _ => rfl
      ids := fun id o hl => by cases hl }
    exact evCode_sound (n := (startS fn args).n) (Q0 := EndOk E fn res w ro) (c0 := c) hO hmix (fun i S hi => ⟨.none rfl, Gr_ev hi w ro _ c hc⟩) c 0 (startS fn args) (endK fn) _ _ w _ ro Placed.whole (fun _ => rfl) (argsT_noCond args 0) hg rfl hr
      fun e S' a' w' ι' ro' h1 h2 _ h4 => endK_sound h1 h2 h4
  · cases hr
end
end
end Go.Proofs.YtiahkjjfhnfdiaaGreatDoor.Mir
namespace Go.Proofs.YtiahkjjfhnfdiaaGreatDoor.Mir
open Go Go.RowKit
noncomputable section
theorem info_of {P : Program} {T a b c : Nat} (h : (P.info? T).map (fun i => (i.size, i.bytes, i.zero.map fun z => z.cells.size)) = some (a, b, some c)) (hc : c = a) :
    ∃ i z, P.info? T = some i ∧ i.size = a ∧ i.bytes = b ∧ i.zero = some z ∧ z.cells.size = a := by
  subst hc
  cases hi : P.info? T with
  | none => rw [hi] at h; cases h
  | some i =>
    rw [hi] at h
    simp only [Option.map_some, Option.some.injEq, Prod.mk.injEq] at h
    obtain ⟨h1, h2, h3⟩ := h
    cases hz : i.zero with
    | none => rw [hz] at h3; cases h3
    | some z =>
      rw [hz] at h3
      exact ⟨i, z, rfl, h1, h2, hz, by simpa using h3⟩
section
variable {Ty : Type} {Den : Ty → Type}
def dInt (k : IntKind) : DVal Den → Option Int
  | .int k' n => if k = k' then some n else none
  | _ => none
def dBl : DVal Den → Option Bool
  | .bool b => some b
  | _ => none
def dStr : DVal Den → Option (List UInt8)
  | .str s => some s
  | _ => none
def dSl (dec : DecidableEq Ty) (t : Ty) : DVal Den → Option (List (Den t))
  | .slice t' l => match dec t' t with
    | .isTrue h => some (h ▸ l)
    | .isFalse _ => none
  | .raw (.slice none 0 0) => some []
  | _ => none
def dFn : DVal Den → Option Nat
  | .raw (.func (.func f) ⟨[]⟩ ⟨[]⟩) => some f
  | _ => none
theorem dFn_le {c : DVal Den} {n : Nat} (h : dFn c = some n) : DLe c (.raw (.func (.func n) #[] #[])) := by
  unfold dFn at h
  split at h
  · cases h; exact .inl rfl
  · cases h
theorem dInt_le {k : IntKind} {c : DVal Den} {n : Int} (h : dInt k c = some n) : DLe c (.int k n) := by
  unfold dInt at h
  split at h
  · split at h
    · rename_i e; subst e; cases h; exact .inl rfl
    · cases h
  · cases h
theorem dBl_le {c : DVal Den} {n : Bool} (h : dBl c = some n) : DLe c (.bool n) := by
  unfold dBl at h
  split at h
  · cases h; exact .inl rfl
  · cases h
theorem dStr_le {c : DVal Den} {n : List UInt8} (h : dStr c = some n) : DLe c (.str n) := by
  unfold dStr at h
  split at h
  · cases h; exact .inl rfl
  · cases h
theorem dSl_le {dec : DecidableEq Ty} {t : Ty} {c : DVal Den} {l : List (Den t)} (h : dSl dec t c = some l) : DLe c (.slice t l) := by
  unfold dSl at h
  split at h
  · split at h
    · rename_i e _; subst e; cases h; exact .inl rfl
    · cases h
  · cases h; exact .inr ⟨rfl, t, rfl⟩
  · cases h
end
section
variable {P : Program} {E : Env P}
abbrev FnW (E : Env P) := List (TV E) → Option (Bool × List (TV E))
abbrev FnR (E : Env P) := List (TV E) → Option (Bool × ((t : E.Ty) × List (E.Den t)))
abbrev FnM (E : Env P) := (t : E.Ty) → List (E.Den t) → List (TV E) → Option (Bool × Bool × List (E.Den t))
def mut0 (a : E.Ty) (back : Bool) (ok : List (E.Den a) → Bool) (F : List (E.Den a) → List (E.Den a)) : FnM E := fun t l rest => match castL t a l, rest with
  | some x, [] => (match castL a t (F x) with
    | some y => some (ok x, back, y)
    | none => none)
  | _, _ => none
theorem mut0_inv {a : E.Ty} {F : List (E.Den a) → List (E.Den a)} {ok : List (E.Den a) → Bool} {bk back : Bool} {t : E.Ty} {l l' : List (E.Den t)} {rest : List (TV E)} (h : mut0 a bk ok F t l rest = some (true, back, l')) :
    ∃ x : List (E.Den a), (⟨t, l⟩ : (t : E.Ty) × List (E.Den t)) = ⟨a, x⟩ ∧ rest = [] ∧ bk = back ∧ ok x = true ∧ (⟨t, l'⟩ : (t : E.Ty) × List (E.Den t)) = ⟨a, F x⟩ := by
  unfold mut0 at h
  split at h
  · rename_i x hx
    unfold castL at hx
    split at hx
    · rename_i e _
      subst e
      cases hx
      split at h
      · rename_i y hy
        unfold castL at hy
        split at hy
        · cases hy
          simp only [Option.some.injEq, Prod.mk.injEq] at h
          obtain ⟨h1, h2, h3⟩ := h
          exact ⟨_, rfl, rfl, h2, h1, by rw [← h3]⟩
        · cases hy
      · cases h
    · cases hx
  · cases h
def orac (l : List (FuncId × FnW E)) (m : List (FuncId × FnR E) := []) (u : List (FuncId × FnM E) := []) (gr : List (FuncId × E.Ty) := []) : Oracle E where
  call := fun f args => match look l f with
    | some F => F args
    | none => none
  isFresh := fun f => match look m f with
    | some _ => true
    | none => false
  fresh := fun f args => match look m f with
    | some F => F args
    | none => none
  isMut := fun f => match look u f with
    | some _ => true
    | none => false
  grow := fun f => look gr f
  rowf := fun f t l xs => match look u f with
    | some F => F t l xs
    | none => none
  inl := .nil
def FreshOk (E : Env P) (f : FuncId) (F : FnR E) : Prop :=
  (∃ fn, P.funcs[f]? = some fn ∧ (fn.name == "runtime.NumGoroutine") = false ∧ fn.body.isNone = false) ∧ ∀ args t l, F args = some (true, ⟨t, l⟩) → CallsFresh E f args t l
def MutOk (E : Env P) (f : FuncId) (F : FnM E) : Prop :=
  (∃ fn, P.funcs[f]? = some fn ∧ (fn.name == "runtime.NumGoroutine") = false ∧ fn.body.isNone = false) ∧ ∀ t l xs back l', F t l xs = some (true, back, l') → CallsMut E f t l xs back l'
def GrowOk (E : Env P) (f : FuncId) (t : E.Ty) : Prop :=
  (∃ fn, P.funcs[f]? = some fn ∧ (fn.name == "runtime.NumGoroutine") = false ∧ fn.body.isNone = false) ∧ CallsGrow E f t
def AllGrow (l : List (FuncId × E.Ty)) : Prop := ∀ p ∈ l, GrowOk E p.1 p.2
theorem AllGrow.nil : AllGrow (E := E) [] := fun p h => by cases h
theorem AllGrow.cons {f : FuncId} {t : E.Ty} {l : List (FuncId × E.Ty)} (h : GrowOk E f t) (hl : AllGrow l) : AllGrow ((f, t) :: l) := fun p hp => by
  cases hp with
  | head => exact h
  | tail _ hp => exact hl p hp
def AllMut (l : List (FuncId × FnM E)) : Prop := ∀ p ∈ l, MutOk E p.1 p.2
def AllOk (l : List (FuncId × FnW E)) : Prop := ∀ p ∈ l, FnOk E p.1 p.2
def AllFresh (l : List (FuncId × FnR E)) : Prop := ∀ p ∈ l, FreshOk E p.1 p.2
theorem orac_ok {l : List (FuncId × FnW E)} {m : List (FuncId × FnR E)} {u : List (FuncId × FnM E)} {gr : List (FuncId × E.Ty)} (h : AllOk l) (hm : AllFresh m) (hu : AllMut u) (hg : AllGrow gr) : OracleOk E (orac l m u gr) := by
  refine ⟨fun f args res hr => ?_, fun f args t x hr => ?_, fun f t x rest back x' hr => ?_, fun f t hr => hg _ (look_mem _ _ _ hr), (fun f args objs next k rr h => by cases h), (fun f T h => by cases h), (fun f args x h => by cases h), (fun f t x args y res h => by cases h), (fun f p xs res h => by cases h)⟩
  · simp only [orac] at hr
    split at hr
    · rename_i F hF
      have := h _ (look_mem _ _ _ hF)
      exact ⟨this.1, this.2 args res hr⟩
    · cases hr
  · simp only [orac] at hr
    split at hr
    · rename_i F hF
      have := hm _ (look_mem _ _ _ hF)
      exact ⟨this.1, this.2 args t x hr⟩
    · cases hr
  · simp only [orac] at hr
    split at hr
    · rename_i F hF
      have := hu _ (look_mem _ _ _ hF)
      exact ⟨this.1, this.2 t x rest back x' hr⟩
    · cases hr
theorem AllOk.nil : AllOk (E := E) [] := fun p h => by cases h
theorem AllFresh.nil : AllFresh (E := E) [] := fun p h => by cases h
theorem AllOk.cons {f : FuncId} {F : FnW E} {l : List (FuncId × FnW E)} (h : FnOk E f F) (hl : AllOk l) : AllOk ((f, F) :: l) := fun p hp => by
  cases hp with
  | head => exact h
  | tail _ hp => exact hl p hp
theorem AllMut.nil : AllMut (E := E) [] := fun p h => by cases h
theorem AllMut.cons {f : FuncId} {F : FnM E} {l : List (FuncId × FnM E)} (h : MutOk E f F) (hl : AllMut l) : AllMut ((f, F) :: l) := fun p hp => by
  cases hp with
  | head => exact h
  | tail _ hp => exact hl p hp
theorem AllFresh.cons {f : FuncId} {F : FnR E} {l : List (FuncId × FnR E)} (h : FreshOk E f F) (hl : AllFresh l) : AllFresh ((f, F) :: l) := fun p hp => by
  cases hp with
  | head => exact h
  | tail _ hp => exact hl p hp
def castV (t : E.Ty) (v : TV E) : Option (E.Den t) := castD v.1 t v.2
theorem castV_eq {t : E.Ty} {v : TV E} {x : E.Den t} (h : castV t v = some x) : v = ⟨t, x⟩ := by
  unfold castV castD at h
  cases hd : E.dec v.1 t with
  | isFalse hn => rw [hd] at h; cases h
  | isTrue he =>
    rw [hd] at h
    obtain ⟨t', y⟩ := v
    simp only at he
    subst he
    cases h
    rfl
def fn1 (a t : E.Ty) (ok : E.Den a → Bool) (F : E.Den a → E.Den t) : FnW E
  | [x] => match castV a x with
    | some x => some (ok x, [⟨t, F x⟩])
    | none => none
  | _ => none
def fn2 (a b t : E.Ty) (ok : E.Den a → E.Den b → Bool) (F : E.Den a → E.Den b → E.Den t) : FnW E
  | [x, y] => match castV a x with
    | some x => match castV b y with
      | some y => some (ok x y, [⟨t, F x y⟩])
      | none => none
    | none => none
  | _ => none
def fn22 (a b t u : E.Ty) (ok : E.Den a → E.Den b → Bool) (F : E.Den a → E.Den b → E.Den t) (G : E.Den a → E.Den b → E.Den u) : FnW E
  | [x, y] => match castV a x with
    | some x => match castV b y with
      | some y => some (ok x y, [⟨t, F x y⟩, ⟨u, G x y⟩])
      | none => none
    | none => none
  | _ => none
def fn3 (a b c t : E.Ty) (ok : E.Den a → E.Den b → E.Den c → Bool) (F : E.Den a → E.Den b → E.Den c → E.Den t) : FnW E
  | [x, y, z] => match castV a x with
    | some x => match castV b y with
      | some y => match castV c z with
        | some z => some (ok x y z, [⟨t, F x y z⟩])
        | none => none
      | none => none
    | none => none
  | _ => none
end
section
variable {P : Program} {E : Env P} {O : Oracle E} {masks : Hint E} {f : FuncId} {fn : Func}
theorem fnOk_of (hO : OracleOk E O) (hmix : P.follows .mixedOrders = true) (hf : P.funcs[f]? = some fn) (hn : (fn.name == "runtime.NumGoroutine") = false) (hb : fn.body.isNone = false) {F : FnW E}
    (h : ∀ args res, F args = some (true, res) → runE O masks (Gr E fn res) fn args = some res) : FnOk E f F :=
  ⟨⟨fn, hf, hn, hb⟩, fun args res hr => callsOk_of hO hmix hf (h args res hr)⟩
theorem fn1_ok {a t : E.Ty} {ok : E.Den a → Bool} {F : E.Den a → E.Den t} (hO : OracleOk E O) (hmix : P.follows .mixedOrders = true) (hf : P.funcs[f]? = some fn) (hn : (fn.name == "runtime.NumGoroutine") = false) (hb : fn.body.isNone = false)
    (h : ∀ x, ok x = true → runE O masks (Gr E fn [⟨t, F x⟩]) fn [⟨a, x⟩] = some [⟨t, F x⟩]) : FnOk E f (fn1 a t ok F) := by
  refine fnOk_of (masks := masks) hO hmix hf hn hb fun args res hr => ?_
  unfold fn1 at hr
  split at hr
  · split at hr
    · rename_i x hx
      injection hr with hr
      injection hr with h1 h2
      subst h2
      rw [castV_eq hx]
      exact h _ h1
    · cases hr
  · cases hr
theorem fn2_ok {a b t : E.Ty} {ok : E.Den a → E.Den b → Bool} {F : E.Den a → E.Den b → E.Den t} (hO : OracleOk E O) (hmix : P.follows .mixedOrders = true) (hf : P.funcs[f]? = some fn) (hn : (fn.name == "runtime.NumGoroutine") = false) (hb : fn.body.isNone = false)
    (h : ∀ x y, ok x y = true → runE O masks (Gr E fn [⟨t, F x y⟩]) fn [⟨a, x⟩, ⟨b, y⟩] = some [⟨t, F x y⟩]) : FnOk E f (fn2 a b t ok F) := by
  refine fnOk_of (masks := masks) hO hmix hf hn hb fun args res hr => ?_
  unfold fn2 at hr
  split at hr
  · split at hr
    · rename_i x hx
      split at hr
      · rename_i y hy
        injection hr with hr
        injection hr with h1 h2
        subst h2
        rw [castV_eq hx, castV_eq hy]
        exact h _ _ h1
      · cases hr
    · cases hr
  · cases hr
theorem fn22_ok {a b t u : E.Ty} {ok : E.Den a → E.Den b → Bool} {F : E.Den a → E.Den b → E.Den t} {G' : E.Den a → E.Den b → E.Den u} (hO : OracleOk E O) (hmix : P.follows .mixedOrders = true) (hf : P.funcs[f]? = some fn) (hn : (fn.name == "runtime.NumGoroutine") = false) (hb : fn.body.isNone = false)
    (h : ∀ x y, ok x y = true → runE O masks (Gr E fn [⟨t, F x y⟩, ⟨u, G' x y⟩]) fn [⟨a, x⟩, ⟨b, y⟩] = some [⟨t, F x y⟩, ⟨u, G' x y⟩]) : FnOk E f (fn22 a b t u ok F G') := by
  refine fnOk_of (masks := masks) hO hmix hf hn hb fun args res hr => ?_
  unfold fn22 at hr
  split at hr
  · split at hr
    · rename_i x hx
      split at hr
      · rename_i y hy
        injection hr with hr
        injection hr with h1 h2
        subst h2
        rw [castV_eq hx, castV_eq hy]
        exact h _ _ h1
      · cases hr
    · cases hr
  · cases hr
theorem fn1_bot {a t : E.Ty} {ok : E.Den a → Bool} {F : E.Den a → E.Den t} (ex : ∃ fn, P.funcs[f]? = some fn ∧ (fn.name == "runtime.NumGoroutine") = false ∧ fn.body.isNone = false) (h : ∀ x, ok x = false) : FnOk E f (fn1 a t ok F) :=
  ⟨ex, fun args r hr => by
    unfold fn1 at hr
    split at hr
    · split at hr
      · rw [h] at hr
        cases hr
      · cases hr
    · cases hr⟩
theorem fn2_bot {a b t : E.Ty} {ok : E.Den a → E.Den b → Bool} {F : E.Den a → E.Den b → E.Den t} (ex : ∃ fn, P.funcs[f]? = some fn ∧ (fn.name == "runtime.NumGoroutine") = false ∧ fn.body.isNone = false) (h : ∀ x y, ok x y = false) : FnOk E f (fn2 a b t ok F) :=
  ⟨ex, fun args r hr => by
    unfold fn2 at hr
    split at hr
    · split at hr
      · split at hr
        · rw [h] at hr
          cases hr
        · cases hr
      · cases hr
    · cases hr⟩
theorem fn3_bot {a b c t : E.Ty} {ok : E.Den a → E.Den b → E.Den c → Bool} {F : E.Den a → E.Den b → E.Den c → E.Den t} (ex : ∃ fn, P.funcs[f]? = some fn ∧ (fn.name == "runtime.NumGoroutine") = false ∧ fn.body.isNone = false) (h : ∀ x y z, ok x y z = false) : FnOk E f (fn3 a b c t ok F) :=
  ⟨ex, fun args r hr => by
    unfold fn3 at hr
    split at hr
    · split at hr
      · split at hr
        · split at hr
          · rw [h] at hr
            cases hr
          · cases hr
        · cases hr
      · cases hr
    · cases hr⟩
theorem fn3_ok {a b c t : E.Ty} {ok : E.Den a → E.Den b → E.Den c → Bool} {F : E.Den a → E.Den b → E.Den c → E.Den t} (hO : OracleOk E O) (hmix : P.follows .mixedOrders = true) (hf : P.funcs[f]? = some fn) (hn : (fn.name == "runtime.NumGoroutine") = false) (hb : fn.body.isNone = false)
    (h : ∀ x y z, ok x y z = true → runE O masks (Gr E fn [⟨t, F x y z⟩]) fn [⟨a, x⟩, ⟨b, y⟩, ⟨c, z⟩] = some [⟨t, F x y z⟩]) : FnOk E f (fn3 a b c t ok F) := by
  refine fnOk_of (masks := masks) hO hmix hf hn hb fun args res hr => ?_
  unfold fn3 at hr
  split at hr
  · split at hr
    · rename_i x hx
      split at hr
      · rename_i y hy
        split at hr
        · rename_i z hz
          injection hr with hr
          injection hr with h1 h2
          subst h2
          rw [castV_eq hx, castV_eq hy, castV_eq hz]
          exact h _ _ _ h1
        · cases hr
      · cases hr
    · cases hr
  · cases hr
end
end
end Go.Proofs.YtiahkjjfhnfdiaaGreatDoor.Mir
namespace Go.Proofs.YtiahkjjfhnfdiaaGreatDoor.Mir
open Go Go.RowKit
noncomputable section
def cloneCode (T b : TypeId) : Code :=
  ((Go.Code.region 0 #[{ dst := some 2, op := Go.Op.assign (Go.Operand.const (Go.Value.slice none 0 0)), type := T, pos := "slices.go:355", after := #[], guard := none }] false).seq
    (((Go.Code.region 1
      #[{ dst := some 3, op := Go.Op.move (Go.Operand.tmp 0), type := T, pos := "slices.go:357", after := #[], guard := none },
        { dst := some 4, op := Go.Op.binOp Go.BinOp.eql T (Go.Operand.tmp 3) (Go.Operand.const (Go.Value.slice none 0 0)) T, type := b, pos := "slices.go:357", after := #[{ on := 0, ground := Go.Ground.data }], guard := none }] false).seq
      (Go.Code.cond (Go.Operand.tmp 4)
        ((Go.Code.region 2 #[{ dst := some 2, op := Go.Op.assign (Go.Operand.const (Go.Value.slice none 0 0)), type := T, pos := "slices.go:358", after := #[], guard := none }] false).seq Go.Code.ret)
        Go.Code.skip)).seq
      ((Go.Code.region 3
        #[{ dst := some 5, op := Go.Op.buildSlice T 0 #[], type := T, pos := "slices.go:362", after := #[], guard := none },
          { dst := some 6, op := Go.Op.move (Go.Operand.tmp 0), type := T, pos := "slices.go:362", after := #[], guard := none },
          { dst := some 7, op := Go.Op.call { callee := Go.Callee.builtin Go.Builtin.append, args := #[Go.Operand.tmp 5, Go.Operand.tmp 6], argTypes := #[T, T] }, type := T, pos := "slices.go:362", after := #[{ on := 0, ground := Go.Ground.data }, { on := 1, ground := Go.Ground.data }], guard := none },
          { dst := some 2, op := Go.Op.assign (Go.Operand.tmp 7), type := T, pos := "slices.go:362",
            after := #[{ on := 2, ground := Go.Ground.data }, { on := 2, ground := Go.Ground.chain }, { on := 0, ground := Go.Ground.phase }, { on := 1, ground := Go.Ground.phase }, { on := 2, ground := Go.Ground.phase }], guard := none }] false).seq Go.Code.ret)))
section
variable {P : Program} {E : Env P}
def cloneF (e : TypeId) : FnR E
  | [v] => bif E.agg v.1 then none else (match E.cells v.1 v.2 with
    | [.slice t l] => bif Nat.beq (E.tid t) e then some (decide (l.length * E.bytes t ≤ maxBytes), ⟨t, l⟩) else none
    | _ => none)
  | _ => none
theorem cell_lt {w : World} {a : Addr} {u : Value} (h : w.cell? a = some u) : a.block < w.heap.size := by
  rcases Nat.lt_or_ge a.block w.heap.size with hl | hl
  · exact hl
  · unfold World.cell? at h
    rw [Array.getElem?_eq_none hl] at h
    cases h
theorem wpList_val {ops : Array Oper} {rest : List Oper} {o : Oper} {a : Act} {w w' : World} {v : Value} {Q : Exit → Act → World → Prop} (hg : o.guard = none) (hr : (execOp a.eval o).run P w = .ok (.value v) w') (h : wpList P ops Q rest (a.put o.dst v) w') : wpList P ops Q (o :: rest) a w := by
  refine wpList_plain hg fun K hK => ?_
  unfold Oper.wp
  rw [hr]
  exact hK _ _ h
theorem clone_fresh {T b e : TypeId} {f : FuncId} {fn : Func} (hT : P.underlying T = some (.slice e)) (hf : P.funcs[f]? = some fn) (hn : (fn.name == "runtime.NumGoroutine") = false) (hb : fn.body = some (cloneCode T b)) (hres : fn.results = #[.tmp 2]) (hnt : fn.ntmps = 8) :
    FreshOk E f (cloneF e) := by
  refine ⟨⟨fn, hf, hn, by rw [hb]; rfl⟩, fun args t l hF => ?_⟩
  unfold cloneF at hF
  split at hF
  · rename_i v
    obtain ⟨s, x⟩ := v
    cases hag : E.agg s with
    | true => simp only [hag, cond_true] at hF; cases hF
    | false =>
      simp only [hag, cond_false] at hF
      split at hF
      · rename_i t' l' hcells
        cases hbe : Nat.beq (E.tid t') e with
        | false => rw [hbe] at hF; cases hF
        | true =>
          rw [hbe] at hF
          have hbe := Nat.eq_of_beq_eq_true hbe
          subst hbe
          simp only [cond_true] at hF
          injection hF with hF
          injection hF with hok hF
          cases hF
          have hok : l.length * E.bytes t ≤ maxBytes := of_decide_eq_true hok
          intro w ro vals hargs hrolt
          match vals, hargs with
          | [v], hargs =>
          have hd : DRep E w ro v (.slice t l) := by
            rcases hargs.1 with ⟨ha, _⟩ | ⟨_, c, hc, hd⟩
            · rw [hag] at ha; cases ha
            · rw [hcells] at hc; cases hc; exact hd
          obtain ⟨ad, cap, news, rfl, hnl, had, hnc, hn1, hnd⟩ := hd.row
          have huE := fun (n c : Nat) => Lib.run_eql_slice_nil (P := P) w T (E.tid t) ad l.length cap n c hT
          have fin : ∀ (a : Act) (w' : World) (gh : Gh) (xs : List Value), a.tmps[2]? = some gh.v → a.defers = [] → Below w.heap.size w w' → gh.n = l.length → gh.e = E.tid t → gh.sz = E.size t → OwnT w' gh xs → RowD E w' ro t xs l → (∀ g, gh.blk = some g → w.heap.size ≤ g) →
              bodyPost P fn (fun e w' => ∃ (gh : Gh) (xs : List Value), e = .returned gh.v ∧ Below w.heap.size w w' ∧ gh.n = l.length ∧ gh.e = E.tid t ∧ gh.sz = E.size t ∧ OwnT w' gh xs ∧ RowD E w' ro t xs l ∧ ∀ g, gh.blk = some g → w.heap.size ≤ g) .ret a w' := by
            intro a w' gh xs h1 h2 h3 h4 h5 h6 h7 h8 h9
            refine ⟨h2, gh.v, ?_, gh, xs, rfl, h3, h4, h5, h6, h7, h8, h9⟩
            simp [results, hres, h1]
          refine calls_of_wp hf hb ?_
          rw [hnt]
          unfold cloneCode
          refine wp_seq (wp_region_list (wpList_val rfl (v := .slice none 0 0) (w' := w) (by simp [execOp, Act.eval]) (wpList_nil ?_)))
          refine wp_seq (wp_seq (wp_region_list (wpList_val rfl (w' := w) (v := .slice ad l.length cap) (by simp [execOp, Act.eval, Act.put]) (wpList_val rfl (w' := w) (v := .bool ad.isNone) (by simp [execOp, Act.eval, Act.put, eqGuard, huE]) (wpList_nil ?_)))))
          cases ad with
          | none =>
            have hl0 := had rfl
            obtain rfl := List.eq_nil_of_length_eq_zero hl0
            refine wp_cond_true (by simp [Act.eval, Act.put]) (wp_seq (wp_region_list (wpList_val rfl (w' := w) (v := .slice none 0 0) (by simp [execOp, Act.eval]) (wpList_nil (wp_ret ?_)))))
            exact fin _ w ⟨.slice none 0 0, 0, E.tid t, E.size t, none⟩ [] (by simp [Act.put]) rfl (Below.refl _ _) rfl rfl rfl (.inl ⟨World.ownsRow_nil w 0 _ _, rfl⟩) (fun i x j c hi => by simp at hi) (fun g hg => by cases hg)
          | some A =>
            refine wp_cond_false (by simp [Act.eval, Act.put]) (wp_skip ?_)
            obtain ⟨i, z, hi, his, hib, hz, hzs⟩ := E.info_ok t
            have hbp := E.bytes_pos t
            let w1 := w.alloc (.cells #[] (E.tid t))
            have hown1 : w1.ownsRow 0 (E.tid t) i.size (.slice (some ⟨w.heap.size, 0, none⟩) 0 0) 0 [] := World.ownsRow_made w #[] 0 (Nat.zero_le _) (Nat.zero_le _) (by simp)
            obtain ⟨v', w', b', hrun, hown', hgrow, hat, _⟩ := run_append_gen (P := P) (w := w1) T T T (E.tid t) i z hT hi hz (by rw [hzs, his]) (.slice (some ⟨w.heap.size, 0, none⟩) 0 0) 0 [] (some w.heap.size) (.inl ⟨hown1, rfl⟩) (.slice (some A) l.length cap) l.length news
              (Src.ofSlice _ hT A _ cap news (by rw [his]; exact hnl) (fun j u hu => by
                have := hnc A rfl j u hu
                exact (World.cell?_alloc_lt w _ _ (cell_lt this)).trans this) hn1) (by
                have : l.length ≤ l.length * E.bytes t := Nat.le_mul_of_pos_right _ hbp
                unfold maxBytes at hok; unfold maxLen; omega) (by rw [hib, Nat.zero_add]; exact hok)
            refine wp_seq (wp_region_list (wpList_val rfl (w' := w1) (v := .slice (some ⟨w.heap.size, 0, none⟩) 0 0) (by simp [execOp, Instr.buildSlice, run_underlying hT, run_size_tid, Instr.fill, newRow, w1, Array.range_zero']) (wpList_val rfl (w' := w1) (v := .slice (some A) l.length cap) (by simp [execOp, Act.eval, Act.put])
              (wpList_val rfl (w' := w') (v := v') (by simp [execOp, Act.eval, Act.put, resolve, invoke, builtin, hrun]) (wpList_val rfl (w' := w') (v := v') (by simp [execOp, Act.eval, Act.put]) (wpList_nil (wp_ret ?_)))))))
            have hbel : Below w.heap.size w w' := (Below.alloc (Below.refl _ _) (Nat.le_refl _) _).trans ⟨hgrow.os, hgrow.tape, hgrow.output, hgrow.size, fun k hk => hgrow.block k (by simp [w1]; omega) (fun e => by cases e; omega)⟩
            rw [his] at hown'
            refine fin _ w' ⟨v', l.length, E.tid t, E.size t, b'⟩ news (by simp [Act.put]) rfl hbel rfl rfl rfl ?_ ?_ ?_
            · simpa [OwnT] using hown'
            · intro i0 x0 j c hx hc
              obtain ⟨u, hu, hdr⟩ := hnd i0 x0 j c hx hc
              exact ⟨u, hu, hdr.mono (fun _ _ h => h) (fun k o h => hbel.cell (p := ⟨k, o, none⟩) (hrolt k o h))⟩
            · intro g hg
              rcases hat with e | e
              · have : b' = some g := hg
                rw [e] at this; cases this; exact Nat.le_refl _
              · have : b' = some g := hg
                rw [e] at this; cases this; simp [w1]
      · cases hF
  · cases hF
end
end
end Go.Proofs.YtiahkjjfhnfdiaaGreatDoor.Mir
namespace Go.Proofs.YtiahkjjfhnfdiaaGreatDoor.Mir
open Go Go.RowKit
noncomputable section
section
variable {P : Program} {E : Env P}
abbrev TL (E : Env P) := (t : E.Ty) × List (E.Den t)
def rowA (S : ASt E) : AV E → Option (TL E)
  | .row _ _ id => match look S.objs id with
    | some (.row t l) => some ⟨t, l⟩
    | _ => none
  | _ => none
def endM (fn : Func) (e : AExit) (S : ASt E) : Option (TL E) := match e with
  | .exit _ => none
  | .goto _ => none
  | _ => match fn.results.toList with
    | [r] => (match valA S r with
      | some v => rowA S v
      | none => none)
    | _ => none
def runLM (O : Oracle E) (h : Hint E) (G : Nat → ASt E → Option (TL E)) (fn : Func) (j : Nat) (S : ASt E) : Option (TL E) := match fn.body with
  | some c => segC O h G c j S (endM fn)
  | none => none
def EndMP (E : Env P) (res : TL E) (w : World) (gh : Gh) (ro : Nat → Nat → Prop) (e : Ending) (w' : World) : Prop := ∃ (gh' : Gh) (xs' : List Value), e = .returned gh'.v ∧ w.grownBy w' gh.blk ∧ gh'.n = res.2.length ∧ gh'.e = E.tid res.1 ∧ gh'.sz = E.size res.1 ∧ OwnT w' gh' xs' ∧
    RowD E w' (fun k o => ro k o ∨ (gh'.blk ≠ some k ∧ (gh.blk = some k ∨ w.heap.size ≤ k ∧ k < w'.heap.size))) res.1 xs' res.2 ∧ (∀ g, gh'.blk = some g → gh.blk = some g ∨ w.heap.size ≤ g)
def EndMOk (E : Env P) (fn : Func) (res : TL E) (w : World) (gh : Gh) (ro : Nat → Nat → Prop) : Exit → Act → World → Prop := bodyPost P fn (EndMP E res w gh ro)
theorem endM_sound {fn : Func} {res : TL E} {w : World} {gh : Gh} {ro : Nat → Nat → Prop} {e : AExit} {S' : ASt E} {a' : Act} {w' : World} {ι' : Nat → Option Gh} {ro' : Nat → Nat → Prop} (hg' : Gam E ⟨w, gh.blk, none, [], fun _ => none⟩ ro S' a' w' ι' ro') (hk : endM fn e S' = some res) :
    EndMOk E fn res w gh ro e.toExit a' w' := by
  have fin : ∀ r, fn.results.toList = [r] → (match valA S' r with | some v => rowA S' v | none => none) = some res → a'.defers = [] ∧ ∃ v, (results fn a'.tmps).run P w' = .ok v w' ∧
      EndMP E res w gh ro (.returned v) w' := by
    intro r hr hres
    cases hv : valA S' r with
    | none => rw [hv] at hres; cases hres
    | some v =>
      rw [hv] at hres
      simp only at hres
      obtain ⟨u, hrun, hrep⟩ := valA_rep hg' hv
      unfold rowA at hres
      split at hres
      · rename_i t0 n0 id
        split at hres
        · rename_i t l hob
          cases hres
          cases hrep with
          | row gh' _ _ ad cap hi h2 h3 h4 h5 =>
            obtain ⟨gh2, xs, hi2, hn, hge, hgs, hown, hrow, hnro⟩ := hg'.objs id _ hob
            rw [hi] at hi2
            cases hi2
            refine ⟨hg'.base.defers, gh'.v, ?_, gh', xs, rfl, hg'.base.below, hn, hge, hgs, hown, hrow.mono (fun k o hk => ?_) (fun _ _ _ => rfl), fun g hg => ?_⟩
            · show (do let vs ← fn.results.mapM (resV a'.tmps); pure (if h : vs.size = 1 then vs[0] else .tuple vs) : Sem Value).run P w' = _
              rw [Array.mapM_eq_mapM_toList, hr]
              simp only [Sem.run_bind, Sem.run_map, List.mapM_cons, List.mapM_nil, hrun, Result.andThen_ok, Sem.run_pure]
              simp [Result.andThen]
            · have hne : gh'.blk ≠ some k := fun e => hnro k e o hk
              rcases hg'.base.ronew k o hk with h | h | h
              · exact .inl h
              · exact .inr ⟨hne, .inr ⟨h, hg'.base.rolt k o hk⟩⟩
              · exact .inr ⟨hne, .inl h⟩
            · rcases (hg'.base.ilt id gh' g hi hg).1 with h | h
              · exact .inr h
              · exact .inl h
        · cases hres
      · cases hres
  cases e with
  | normal =>
    unfold endM at hk
    split at hk
    · rename_i h; cases h
    · rename_i h; cases h
    · split at hk
      · rename_i r hr; exact fin r hr hk
      · cases hk
  | ret =>
    unfold endM at hk
    split at hk
    · rename_i h; cases h
    · rename_i h; cases h
    · split at hk
      · rename_i r hr; exact fin r hr hk
      · cases hk
  | exit id => cases hk
  | goto l => cases hk
def EvM (E : Env P) (fn : Func) (res : TL E) (i : Nat) (S : ASt E) : Prop :=
  ∀ (w0 : World) (gh : Gh) ro0 n c, fn.body = some c → HdOk E ⟨w0, gh.blk, none, [], fun _ => none⟩ ro0 n c (EndMOk E fn res w0 gh ro0) i S
open Classical in
def GrM (E : Env P) (fn : Func) (res : TL E) (i : Nat) (S : ASt E) : Option (TL E) := if EvM E fn res i S then some res else none
theorem GrM_ev {fn : Func} {res r : TL E} {i : Nat} {S : ASt E} (h : GrM E fn res i S = some r) : EvM E fn r i S := by
  unfold GrM at h
  split at h
  · cases h; assumption
  · cases h
variable {O : Oracle E} {h : Hint E}
theorem EvM.step (hO : OracleOk E O) (hmix : P.follows .mixedOrders = true) {fn : Func} {res : TL E} {j : Nat} {S : ASt E} (hs : runLM O h (GrM E fn res) fn j S = some res) : EvM E fn res j S := by
  intro w0 gh ro0 n c hc
  unfold runLM at hs
  rw [hc] at hs
  exact segC_sound hO hmix (fun i S hi => ⟨.none rfl, GrM_ev hi w0 gh ro0 n c hc⟩) (fun e S' a' w' ι' ro' _ h2 _ h4 => endM_sound h2 h4) hs
variable {f : FuncId} {fn : Func}
end
end
end Go.Proofs.YtiahkjjfhnfdiaaGreatDoor.Mir
namespace Go.Proofs.YtiahkjjfhnfdiaaGreatDoor.Mir
open Go Go.RowKit
noncomputable section
section
variable {P : Program} {E : Env P} {O : Oracle E} {masks : Hint E} {f : FuncId} {fn : Func}
def fn23 (a0 a1 t0 t1 t2 : E.Ty) (ok : E.Den a0 → E.Den a1 → Bool) (F0 : E.Den a0 → E.Den a1 → E.Den t0) (F1 : E.Den a0 → E.Den a1 → E.Den t1) (F2 : E.Den a0 → E.Den a1 → E.Den t2) : FnW E
  | [x0, x1] => match castV a0 x0, castV a1 x1 with
    | some x0, some x1 => some (ok x0 x1, [⟨t0, F0 x0 x1⟩, ⟨t1, F1 x0 x1⟩, ⟨t2, F2 x0 x1⟩])
    | _, _ => none
  | _ => none
theorem fn23_ok {a0 a1 t0 t1 t2 : E.Ty} {ok : E.Den a0 → E.Den a1 → Bool} {F0 : E.Den a0 → E.Den a1 → E.Den t0} {F1 : E.Den a0 → E.Den a1 → E.Den t1} {F2 : E.Den a0 → E.Den a1 → E.Den t2} (hO : OracleOk E O) (hmix : P.follows .mixedOrders = true) (hf : P.funcs[f]? = some fn) (hn : (fn.name == "runtime.NumGoroutine") = false) (hb : fn.body.isNone = false)
    (h : ∀ x0 x1, ok x0 x1 = true → runE O masks (Gr E fn [⟨t0, F0 x0 x1⟩, ⟨t1, F1 x0 x1⟩, ⟨t2, F2 x0 x1⟩]) fn [⟨a0, x0⟩, ⟨a1, x1⟩] = some [⟨t0, F0 x0 x1⟩, ⟨t1, F1 x0 x1⟩, ⟨t2, F2 x0 x1⟩]) : FnOk E f (fn23 a0 a1 t0 t1 t2 ok F0 F1 F2) := by
  refine fnOk_of (masks := masks) hO hmix hf hn hb fun args res hr => ?_
  unfold fn23 at hr
  split at hr
  · split at hr
    · rename_i hx0 hx1
      injection hr with hr
      injection hr with h1 h2
      subst h2
      rw [castV_eq hx0, castV_eq hx1]
      exact h _ _ h1
    · cases hr
  · cases hr
def fn4 (a0 a1 a2 a3 t0 : E.Ty) (ok : E.Den a0 → E.Den a1 → E.Den a2 → E.Den a3 → Bool) (F0 : E.Den a0 → E.Den a1 → E.Den a2 → E.Den a3 → E.Den t0) : FnW E
  | [x0, x1, x2, x3] => match castV a0 x0, castV a1 x1, castV a2 x2, castV a3 x3 with
    | some x0, some x1, some x2, some x3 => some (ok x0 x1 x2 x3, [⟨t0, F0 x0 x1 x2 x3⟩])
    | _, _, _, _ => none
  | _ => none
def fn43 (a0 a1 a2 a3 t0 t1 t2 : E.Ty) (ok : E.Den a0 → E.Den a1 → E.Den a2 → E.Den a3 → Bool) (F0 : E.Den a0 → E.Den a1 → E.Den a2 → E.Den a3 → E.Den t0) (F1 : E.Den a0 → E.Den a1 → E.Den a2 → E.Den a3 → E.Den t1) (F2 : E.Den a0 → E.Den a1 → E.Den a2 → E.Den a3 → E.Den t2) : FnW E
  | [x0, x1, x2, x3] => match castV a0 x0, castV a1 x1, castV a2 x2, castV a3 x3 with
    | some x0, some x1, some x2, some x3 => some (ok x0 x1 x2 x3, [⟨t0, F0 x0 x1 x2 x3⟩, ⟨t1, F1 x0 x1 x2 x3⟩, ⟨t2, F2 x0 x1 x2 x3⟩])
    | _, _, _, _ => none
  | _ => none
end
end
end Go.Proofs.YtiahkjjfhnfdiaaGreatDoor.Mir
