/- The Mirror, part P: what the interpreter says of a function is what the model's call does. -/
import Derived.Test.YtfoflgciceckoaaGreatDoorMirO
namespace Go.Proofs.YtfoflgciceckoaaGreatDoor.Mir
open Go Go.RowKit

section
variable {P : Program} {E : Env P}

def valA (S : ASt E) (r : ResultVar) : Option (AV E) := match r with
  | .tmp q => some (slotA [] (look S.tmps q))
  | .cell q ty => evLoad S.objs ty (slotA [] (look S.tmps q))

def resA (S : ASt E) : List ResultVar → List TypeId → Option (List (TV E))
  | [], [] => some []
  | r :: rs, T :: Ts => match E.code T with
    | some t => match valA S r with
      | some v => match foldA t v with
        | some x => match resA S rs Ts with
          | some xs => some (⟨t, x⟩ :: xs)
          | none => none
        | none => none
      | none => none
    | none => none
  | _, _ => none

def argsT : List (TV E) → Nat → List (Nat × AV E)
  | [], _ => []
  | ⟨t, x⟩ :: r, i => (i, expandA t x) :: argsT r (i + 1)

def startS (fn : Func) (args : List (TV E)) : ASt E := ⟨args.length + (fn.ntmps - args.length), argsT args 0, [], 0⟩

def endK (fn : Func) (e : AExit) (S : ASt E) : Option (List (TV E)) := match e with
  | .exit _ => none
  | .goto _ => none
  | _ => resA (freezeS S) fn.results.toList fn.resultTypes.toList

/-- The interpreter's word on a function: from its start; and from the head of its loop j. -/
def runE (O : Oracle E) (h : Hint E) (G : Nat → ASt E → Option (List (TV E))) (fn : Func) (args : List (TV E)) : Option (List (TV E)) := match fn.body with
  | some c => evCode O h G 0 c (startS fn args) (endK fn)
  | none => none
def runL (O : Oracle E) (h : Hint E) (G : Nat → ASt E → Option (List (TV E))) (fn : Func) (j : Nat) (S : ASt E) : Option (List (TV E)) := match fn.body with
  | some c => segC O h G c j S (endK fn)
  | none => none
end

/-! ### A loop, from its head on -/
section
variable {P : Program}
/-- From the head of a loop with this body every way ends as Q says. -/
def LoopWp (P : Program) (c : Code) (Q : Exit → Act → World → Prop) (a : Act) (w : World) : Prop :=
  ∀ b k cs, ∃ e a' w', Q e a' w' ∧ Arrives P (lone (b.at a (.code c :: .inLoop c :: k)) cs w) b k cs e a' w'

theorem LoopWp.wp {c : Code} {Q : Exit → Act → World → Prop} {a : Act} {w : World} (h : LoopWp P c Q a w) : (Code.loop c).wp P Q a w := by
  intro b k cs
  obtain ⟨e, a', w', hq, harr⟩ := h b k cs
  exact ⟨e, a', w', hq, .of_steps (.one step_loop) harr⟩

theorem LoopWp.round {c : Code} {Q : Exit → Act → World → Prop} {a : Act} {w : World} (h : c.wp P (Exit.then (LoopWp P c Q) Q) a w) : LoopWp P c Q a w := by
  intro b k cs
  obtain ⟨e, a₁, w₁, hq, harr⟩ := h b (.inLoop c :: k) cs
  cases e with
  | normal =>
    obtain ⟨e₂, a₂, w₂, hq₂, harr₂⟩ := hq b k cs
    exact ⟨e₂, a₂, w₂, hq₂, .of_steps (Steps.trans harr (.one step_inLoop)) harr₂⟩
  | exit id => exact ⟨_, a₁, w₁, hq, .pass (x := .inLoop c) rfl (fun _ _ => .inl (by simp)) harr⟩
  | goto l => exact ⟨_, a₁, w₁, hq, .pass (x := .inLoop c) rfl (fun _ _ => .inl (by simp)) harr⟩
  | ret => exact ⟨_, a₁, w₁, hq, .pass (x := .inLoop c) rfl (fun _ _ => .inl (by simp)) harr⟩
  | panic ch => exact ⟨_, a₁, w₁, hq, .pass (x := .inLoop c) rfl (fun _ _ => .inl (by simp)) harr⟩
  | outgrown => exact ⟨_, a₁, w₁, hq, .pass (x := .inLoop c) rfl (fun _ _ => .inl (by simp)) harr⟩

/-! ### A scope, and its labels -/
/-- From a label of a scope, whose rest is given, every way ends as Q says. -/
def JumpWp (P : Program) (c rest : Code) (Q : Exit → Act → World → Prop) (a : Act) (w : World) : Prop :=
  ∀ b k cs, ∃ e a' w', Q e a' w' ∧ Arrives P (lone (b.at a (.code rest :: .inScope c :: k)) cs w) b k cs e a' w'
/-- What is to hold behind a part of a scope. -/
def scPost (P : Program) (c : Code) (Q : Exit → Act → World → Prop) : Exit → Act → World → Prop
  | .goto l, a, w => ∃ rest, findLabel c l = some rest ∧ JumpWp P c rest Q a w
  | e, a, w => Q e a w
theorem JumpWp.of {c rest : Code} {Q : Exit → Act → World → Prop} {a : Act} {w : World} (h : rest.wp P (scPost P c Q) a w) : JumpWp P c rest Q a w := by
  intro b k cs
  obtain ⟨e, a₁, w₁, hq, harr⟩ := h b (.inScope c :: k) cs
  cases e with
  | normal => exact ⟨.normal, a₁, w₁, hq, Steps.trans harr (.one step_inScope)⟩
  | exit id => exact ⟨.exit id, a₁, w₁, hq, fun k' hk => harr k' (by simp [exitTo, hk])⟩
  | goto l' =>
    obtain ⟨rest', hf, hJ⟩ := hq
    have hg : gotoIn l' (.inScope c :: k) = some (.code rest' :: .inScope c :: k) := by simp [gotoIn, hf]
    obtain ⟨e₂, a₂, w₂, hq₂, harr₂⟩ := hJ b k cs
    exact ⟨e₂, a₂, w₂, hq₂, .of_steps (harr _ hg) harr₂⟩
  | ret => exact ⟨_, a₁, w₁, hq, harr⟩
  | panic ch => exact ⟨_, a₁, w₁, hq, harr⟩
  | outgrown => exact ⟨_, a₁, w₁, hq, harr⟩
theorem wp_scopeJ {c : Code} {Q : Exit → Act → World → Prop} {a : Act} {w : World} (h : c.wp P (scPost P c Q) a w) : (Code.scope c).wp P Q a w := by
  intro b k cs
  obtain ⟨e, a₁, w₁, hq, harr⟩ := h b (.inScope c :: k) cs
  cases e with
  | normal => exact ⟨.normal, a₁, w₁, hq, .head step_scope (Steps.trans harr (.one step_inScope))⟩
  | exit id => exact ⟨.exit id, a₁, w₁, hq, fun k' hk => .head step_scope (harr k' (by simp [exitTo, hk]))⟩
  | goto l' =>
    obtain ⟨rest', hf, hJ⟩ := hq
    have hg : gotoIn l' (.inScope c :: k) = some (.code rest' :: .inScope c :: k) := by simp [gotoIn, hf]
    obtain ⟨e₂, a₂, w₂, hq₂, harr₂⟩ := hJ b k cs
    exact ⟨e₂, a₂, w₂, hq₂, .of_steps (.head step_scope (harr _ hg)) harr₂⟩
  | ret => exact ⟨_, a₁, w₁, hq, .of_steps (.one step_scope) harr⟩
  | panic ch => exact ⟨_, a₁, w₁, hq, .of_steps (.one step_scope) harr⟩
  | outgrown => exact ⟨_, a₁, w₁, hq, .of_steps (.one step_scope) harr⟩
/-- The scope of a code, and what is to hold behind it. -/
def scopeAt (P : Program) : Code → (Exit → Act → World → Prop) → Option (Code × (Exit → Act → World → Prop))
  | .scope c, Q => some (c, Q)
  | .seq x y, Q => (match hasScope x with
    | true => scopeAt P x (Exit.then (y.wp P Q) Q)
    | false => scopeAt P y Q)
  | .block id b, Q => scopeAt P b (Exit.inBlock id Q)
  | _, _ => none

/-- Loop j of a code: its body, and what is to hold behind it. -/
def contAt (P : Program) : Code → Nat → (Exit → Act → World → Prop) → Option (Code × (Exit → Act → World → Prop))
  | .loop b, 0, Q => some (b, Q)
  | .loop b, j + 1, Q => contAt P b j (Exit.then (LoopWp P b Q) Q)
  | .seq x y, j, Q => match Nat.blt j (nloops x) with
    | true => contAt P x j (Exit.then (y.wp P Q) Q)
    | false => contAt P y (j - nloops x) Q
  | .cond _ x y, j, Q => match Nat.blt j (nloops x) with
    | true => contAt P x j Q
    | false => contAt P y (j - nloops x) Q
  | .block id b, j, Q => contAt P b j (Exit.inBlock id Q)
  | _, _, _ => none

/-- The loops of a part stand in the whole where the part stands. -/
def Placed (P : Program) (c0 : Code) (Q0 : Exit → Act → World → Prop) (i : Nat) (c : Code) (Q : Exit → Act → World → Prop) : Prop :=
  ∀ j, j < nloops c → contAt P c0 (i + j) Q0 = contAt P c j Q

theorem blt_true {a b : Nat} (h : a < b) : Nat.blt a b = true := by simpa [Nat.blt_eq] using h
theorem blt_false {a b : Nat} (h : b ≤ a) : Nat.blt a b = false := by
  cases hb : Nat.blt a b with
  | false => rfl
  | true => rw [Nat.blt_eq] at hb; omega

section
variable {c0 : Code} {Q0 Q : Exit → Act → World → Prop} {i : Nat}
theorem Placed.seq {x y : Code} (h : Placed P c0 Q0 i (.seq x y) Q) : Placed P c0 Q0 i x (Exit.then (y.wp P Q) Q) ∧ Placed P c0 Q0 (i + nloops x) y Q := by
  refine ⟨fun j hj => ?_, fun j hj => ?_⟩
  · rw [h j (by show j < nloops x + nloops y; omega)]
    simp only [contAt, blt_true hj]
  · rw [Nat.add_assoc, h (nloops x + j) (by show nloops x + j < nloops x + nloops y; omega)]
    simp only [contAt, blt_false (show nloops x ≤ nloops x + j by omega), Nat.add_sub_cancel_left]
theorem Placed.cond {c : Operand} {x y : Code} (h : Placed P c0 Q0 i (.cond c x y) Q) : Placed P c0 Q0 i x Q ∧ Placed P c0 Q0 (i + nloops x) y Q := by
  refine ⟨fun j hj => ?_, fun j hj => ?_⟩
  · rw [h j (by show j < nloops x + nloops y; omega)]
    simp only [contAt, blt_true hj]
  · rw [Nat.add_assoc, h (nloops x + j) (by show nloops x + j < nloops x + nloops y; omega)]
    simp only [contAt, blt_false (show nloops x ≤ nloops x + j by omega), Nat.add_sub_cancel_left]
theorem Placed.block {id : Nat} {b : Code} (h : Placed P c0 Q0 i (.block id b) Q) : Placed P c0 Q0 i b (Exit.inBlock id Q) := fun j hj => h j hj
theorem Placed.head {b : Code} (h : Placed P c0 Q0 i (.loop b) Q) : contAt P c0 i Q0 = some (b, Q) := h 0 (by show 0 < nloops b + 1; omega)
theorem Placed.inner {b : Code} (h : Placed P c0 Q0 i (.loop b) Q) : Placed P c0 Q0 (i + 1) b (Exit.then (LoopWp P b Q) Q) := fun j hj => by
  rw [Nat.add_assoc, Nat.add_comm 1 j]
  exact h (j + 1) (by show j + 1 < nloops b + 1; omega)
theorem Placed.of_zero {c : Code} (h : nloops c = 0) : Placed P c0 Q0 i c Q := fun j hj => by omega
theorem Placed.whole : Placed P c0 Q0 0 c0 Q0 := fun j _ => by rw [Nat.zero_add]
end
end

section
variable {P : Program} {E : Env P} {O : Oracle E} {h : Hint E} {w0 : Start} {ro0 : Nat → Nat → Prop} {n : Nat} {c0 : Code} {Q0 : Exit → Act → World → Prop}

/-- From the head of loop i, in this state, the function ends as Q0 says. -/
def HeadOk (E : Env P) (w0 : Start) (ro0 : Nat → Nat → Prop) (n : Nat) (c0 : Code) (Q0 : Exit → Act → World → Prop) (i : Nat) (S : ASt E) : Prop :=
  ∀ b Q, contAt P c0 i Q0 = some (b, Q) → ∀ a w ι ro, NoCond S.tmps → Gam E w0 ro0 S a w ι ro → S.n = n → LoopWp P b Q a w

/-- From label l of the scope, in this state, the function ends as Q0 says. -/
def LabOk (E : Env P) (w0 : Start) (ro0 : Nat → Nat → Prop) (n : Nat) (c0 : Code) (Q0 : Exit → Act → World → Prop) (i : Nat) (S : ASt E) : Prop :=
  ∀ l, i = 100 + l → ∀ sc Q rest, scopeAt P c0 Q0 = some (sc, Q) → findLabel sc l = some rest → ∀ a w ι ro, NoCond S.tmps → Gam E w0 ro0 S a w ι ro → S.n = n → rest.wp P (scPost P sc Q) a w
def HdOk (E : Env P) (w0 : Start) (ro0 : Nat → Nat → Prop) (n : Nat) (c0 : Code) (Q0 : Exit → Act → World → Prop) (i : Nat) (S : ASt E) : Prop := HeadOk E w0 ro0 n c0 Q0 i S ∧ LabOk E w0 ro0 n c0 Q0 i S
theorem contAt_none : ∀ (c : Code) (j : Nat) (Q : Exit → Act → World → Prop), nloops c ≤ j → contAt P c j Q = none
  | .loop b, 0, Q, h => by simp [nloops] at h
  | .loop b, j + 1, Q, h => contAt_none b j _ (by simp only [nloops] at h; omega)
  | .seq x y, j, Q, h => by
    simp only [nloops] at h
    simp only [contAt, blt_false (show nloops x ≤ j by omega)]
    exact contAt_none y _ Q (by omega)
  | .cond _ x y, j, Q, h => by
    simp only [nloops] at h
    simp only [contAt, blt_false (show nloops x ≤ j by omega)]
    exact contAt_none y _ Q (by omega)
  | .block id b, j, Q, h => contAt_none b j _ (by simpa only [nloops] using h)
  | .skip, _, _, _ => rfl
  | .ret, _, _, _ => rfl
  | .exit _, _, _, _ => rfl
  | .region .., _, _, _ => rfl
  | .scope _, _, _, _ => rfl
  | .label _, _, _, _ => rfl
  | .goto _, _, _, _ => rfl
  | .rangeFunc .., _, _, _ => rfl
  | .refuse _, _, _, _ => rfl
theorem headAt_sound (hh : Hint E) (i : Nat) (hio : w0.k = none) {S : ASt E} {a : Act} {w : World} {ι : Nat → Option Gh} {ro : Nat → Nat → Prop} (hnc : NoCond S.tmps) (hg : Gam E w0 ro0 S a w ι ro) (hn : S.n = n) :
    ∃ ι', NoCond (headAt hh i S).tmps ∧ Gam E w0 ro0 (headAt hh i S) a w ι' ro ∧ (headAt hh i S).n = n := by
  obtain ⟨ι1, hnc1, hg1, hn1⟩ := nilS_sound (atN hh.nils i) S ι hnc hg
  obtain ⟨ι', hnc', hg'⟩ := headS_sound (atN hh.live i) hio hnc1 hg1
  exact ⟨ι', hnc', hg', hn1.trans hn⟩

theorem evCode_sound {R : Type} (hO : OracleOk E O) (hmix : P.follows .mixedOrders = true) {G : Nat → ASt E → Option R} {rr : R} (hG : ∀ i S, G i S = some rr → w0.k = none ∧ HdOk E w0 ro0 n c0 Q0 i S) :
    ∀ (c : Code) (i : Nat) (S : ASt E) (k : AExit → ASt E → Option R) (Q : Exit → Act → World → Prop) (a : Act) (w : World) (ι : Nat → Option Gh) (ro : Nat → Nat → Prop), Placed P c0 Q0 i c Q → (hasScope c = true → scopeAt P c Q = scopeAt P c0 Q0) →
    NoCond S.tmps → Gam E w0 ro0 S a w ι ro → S.n = n → evCode O h G i c S k = some rr →
    (∀ e S' a' w' ι' ro', NoCond S'.tmps → Gam E w0 ro0 S' a' w' ι' ro' → S'.n = n → k e S' = some rr → Q e.toExit a' w') → c.wp P Q a w := by
  intro c
  induction c with
  | skip => intro i S k Q a w ι ro _ _ hnc hg hn h hk; exact wp_skip (hk .normal S a w ι ro hnc hg hn h)
  | ret => intro i S k Q a w ι ro _ _ hnc hg hn h hk; exact wp_ret (hk .ret S a w ι ro hnc hg hn h)
  | exit id => intro i S k Q a w ι ro _ _ hnc hg hn h hk; exact wp_exit (hk (.exit id) S a w ι ro hnc hg hn h)
  | region id ops draw =>
    intro i S k Q a w ι ro _ _ hnc hg hn h hk
    have go : ∀ (S : ASt E) (ro : Nat → Nat → Prop), NoCond S.tmps → Gam E w0 ro0 S a w ι ro → S.n = n → evReg O ops draw S (k .normal) = some rr → (Code.region id ops draw).wp P Q a w := by
      intro S ro hnc hg hn h
      cases draw with
      | true =>
        exact evDraw_sound (n := S.n) (glob := S.tmps) (objs := S.objs) (next := S.next) hO hmix hnc hg (fun S' a' w' ι' ro' h1 h2 h3 h4 => hk .normal S' a' w' ι' ro' h1 h2 (h3.trans hn) h4) h
      | false =>
        refine wp_region_list (evSeq_sound (n := S.n) (glob := S.tmps) hO hnc (fun S' a' w' ι' ro' h1 h2 h3 h4 => hk .normal S' a' w' ι' ro' h1 h2 (h3.trans hn) h4) ops.toList [] S.objs S.next a w ι ro hg h)
    simp only [evCode] at h
    have fin : ∀ (l1 : List (Nat × Nat)) (l2 : List Nat) (S : ASt E) (ro : Nat → Nat → Prop), NoCond S.tmps → Gam E w0 ro0 S a w ι ro → S.n = n → splitK l1 (openS l2 S) (fun S' => evReg O ops draw S' (k .normal)) = some rr → (Code.region id ops draw).wp P Q a w := by
      intro l1 l2 S ro hnc hg hn h
      obtain ⟨ro1, g1, g2, g3⟩ := openS_sound l2 S ro hnc hg
      obtain ⟨S2, g4, g5, g6, g7⟩ := splitK_sound _ _ g1 g2 h
      exact go S2 ro1 g4 g5 (g6.trans (g3.trans hn)) g7
    split at h
    · obtain ⟨h1, h2⟩ := freezeS_sound hnc hg
      exact fin _ _ (freezeS S) _ h1 h2 hn h
    · exact fin _ _ S ro hnc hg hn h
  | seq x y ihx ihy =>
    intro i S k Q a w ι ro hp hs hnc hg hn h hk
    simp only [evCode] at h
    split at h
    · cases h
    · rename_i hxy
      have sx : hasScope x = true → scopeAt P x (Exit.then (y.wp P Q) Q) = scopeAt P c0 Q0 := fun hx => by
        rw [← hs (by simp only [hasScope, hx, Bool.true_or])]
        simp only [scopeAt, hx]
      have sy : hasScope y = true → scopeAt P y Q = scopeAt P c0 Q0 := fun hy => by
        have hx : hasScope x = false := by
          cases hq : hasScope x with
          | false => rfl
          | true => rw [hq, hy] at hxy; cases hxy
        rw [← hs (by simp only [hasScope, hy, Bool.or_true])]
        simp only [scopeAt, hx]
      refine wp_seq (ihx i S _ _ a w ι ro hp.seq.1 sx hnc hg hn h fun e S' a' w' ι' ro' h1 h2 h3 h4 => ?_)
      cases e with
      | normal => exact ihy _ S' k Q a' w' ι' ro' hp.seq.2 sy h1 h2 h3 h4 hk
      | exit id => exact hk (.exit id) S' a' w' ι' ro' h1 h2 h3 h4
      | ret => exact hk .ret S' a' w' ι' ro' h1 h2 h3 h4
      | goto l => exact hk (.goto l) S' a' w' ι' ro' h1 h2 h3 h4
  | cond c x y ihx ihy =>
    intro i S k Q a w ι ro hp _ hnc hg hn h hk
    have hc := getA_rep (E := E) (asm := []) hg.tmps (fun j b hb => by simp [hasAsm] at hb) c
    simp only [evCode] at h
    split at h
    · cases h
    · rename_i hxy
      rw [Bool.or_eq_false_iff] at hxy
      split at h
      · rename_i b hb
        rw [hb] at hc
        have hc := hc.bool_inv
        cases b with
        | true => exact wp_cond_true hc (ihx i S k Q a w ι ro hp.cond.1 (fun e => by rw [hxy.1] at e; cases e) hnc hg hn h hk)
        | false => exact wp_cond_false hc (ihy _ S k Q a w ι ro hp.cond.2 (fun e => by rw [hxy.2] at e; cases e) hnc hg hn h hk)
      · cases h
  | block id body ih =>
    intro i S k Q a w ι ro hp hs hnc hg hn h hk
    refine wp_block (ih i S _ _ a w ι ro hp.block hs hnc hg hn h fun e S' a' w' ι' ro' h1 h2 h3 h4 => ?_)
    cases e with
    | goto l => exact hk (.goto l) S' a' w' ι' ro' h1 h2 h3 h4
    | normal => exact hk .normal S' a' w' ι' ro' h1 h2 h3 h4
    | ret => exact hk .ret S' a' w' ι' ro' h1 h2 h3 h4
    | exit i =>
      simp only [AExit.toExit, Exit.inBlock, blockK] at h4 ⊢
      cases hb : Nat.beq i id with
      | true =>
        rw [hb] at h4
        rw [if_pos (Nat.eq_of_beq_eq_true hb)]
        exact hk .normal S' a' w' ι' ro' h1 h2 h3 h4
      | false =>
        rw [hb] at h4
        rw [if_neg (fun e => by subst e; simp at hb)]
        exact hk (.exit i) S' a' w' ι' ro' h1 h2 h3 h4
  | loop body ih =>
    intro i S k Q a w ι ro hp _ hnc hg hn hh hk
    obtain ⟨ι', h1, h2, h3⟩ := headAt_sound h i (hG i _ hh).1 hnc hg hn
    exact ((hG i _ hh).2.1 body Q hp.head a w ι' ro h1 h2 h3).wp
  | label l => intro i S k Q a w ι ro _ _ hnc hg hn h hk; exact wp_label (hk .normal S a w ι ro hnc hg hn h)
  | goto l => intro i S k Q a w ι ro _ _ hnc hg hn h hk; exact wp_goto (hk (.goto l) S a w ι ro hnc hg hn h)
  | scope c ih =>
    intro i S k Q a w ι ro hp hs hnc hg hn hh hk
    simp only [evCode] at hh
    split at hh
    · rename_i hns hz
      refine wp_scopeJ (ih i S _ _ a w ι ro (Placed.of_zero hz) (fun e => by rw [hns] at e; cases e) hnc hg hn hh fun e S' a' w' ι' ro' h1 h2 h3 h4 => ?_)
      cases e with
      | normal => exact hk .normal S' a' w' ι' ro' h1 h2 h3 h4
      | exit id => exact hk (.exit id) S' a' w' ι' ro' h1 h2 h3 h4
      | ret => exact hk .ret S' a' w' ι' ro' h1 h2 h3 h4
      | goto l =>
        simp only [scopeK] at h4
        split at h4
        · rename_i rest hf
          obtain ⟨ι2, g1, g2, g3⟩ := headAt_sound h (100 + l) (hG _ _ h4).1 h1 h2 h3
          exact ⟨rest, hf, JumpWp.of ((hG _ _ h4).2.2 l rfl c Q rest (hs rfl).symm hf a' w' ι2 ro' g1 g2 g3)⟩
        · cases h4
    · cases hh
  | _ => intro i S k Q a w ι ro _ _ hnc hg hn h hk; cases h

theorem ctxK_sound {R : Type} (hO : OracleOk E O) (hmix : P.follows .mixedOrders = true) {G : Nat → ASt E → Option R} {rr : R} (hG : ∀ i S, G i S = some rr → w0.k = none ∧ HdOk E w0 ro0 n c0 Q0 i S) :
    ∀ (c : Code) (i j : Nat) (k : AExit → ASt E → Option R) (Q : Exit → Act → World → Prop) (i' : Nat) (b : Code) (k' : AExit → ASt E → Option R), Placed P c0 Q0 i c Q → hasScope c = false → ctxK O h G i c j k = some (i', b, k') →
    (∀ e S' a' w' ι' ro', NoCond S'.tmps → Gam E w0 ro0 S' a' w' ι' ro' → S'.n = n → k e S' = some rr → Q e.toExit a' w') →
    i' = i + j ∧ hasScope b = false ∧ ∃ Q', Placed P c0 Q0 i' (.loop b) Q' ∧ ∀ e S' a' w' ι' ro', NoCond S'.tmps → Gam E w0 ro0 S' a' w' ι' ro' → S'.n = n → k' e S' = some rr → Q' e.toExit a' w' := by
  intro c
  induction c with
  | seq x y ihx ihy =>
    intro i j k Q i' b k' hp hns hc hk
    simp only [ctxK] at hc
    split at hc
    · rename_i hj
      refine ihx i j _ _ i' b k' hp.seq.1 (Bool.or_eq_false_iff.1 hns).1 hc fun e S' a' w' ι' ro' h1 h2 h3 h4 => ?_
      cases e with
      | normal => exact evCode_sound hO hmix hG y _ S' k Q a' w' ι' ro' hp.seq.2 (fun e => by rw [(Bool.or_eq_false_iff.1 hns).2] at e; cases e) h1 h2 h3 h4 hk
      | goto l => exact hk (.goto l) S' a' w' ι' ro' h1 h2 h3 h4
      | exit id => exact hk (.exit id) S' a' w' ι' ro' h1 h2 h3 h4
      | ret => exact hk .ret S' a' w' ι' ro' h1 h2 h3 h4
    · rename_i hj
      have hle : nloops x ≤ j := by
        rcases Nat.lt_or_ge j (nloops x) with h | h
        · rw [blt_true h] at hj; cases hj
        · exact h
      obtain ⟨e1, rest⟩ := ihy _ _ k Q i' b k' hp.seq.2 (Bool.or_eq_false_iff.1 hns).2 hc hk
      exact ⟨by omega, rest⟩
  | cond c x y ihx ihy =>
    intro i j k Q i' b k' hp hns hc hk
    simp only [ctxK] at hc
    split at hc
    · exact ihx i j k Q i' b k' hp.cond.1 (Bool.or_eq_false_iff.1 hns).1 hc hk
    · rename_i hj
      have hle : nloops x ≤ j := by
        rcases Nat.lt_or_ge j (nloops x) with h | h
        · rw [blt_true h] at hj; cases hj
        · exact h
      obtain ⟨e1, rest⟩ := ihy _ _ k Q i' b k' hp.cond.2 (Bool.or_eq_false_iff.1 hns).2 hc hk
      exact ⟨by omega, rest⟩
  | block id body ih =>
    intro i j k Q i' b k' hp hns hc hk
    refine ih i j _ _ i' b k' hp.block hns hc fun e S' a' w' ι' ro' h1 h2 h3 h4 => ?_
    cases e with
    | goto l => exact hk (.goto l) S' a' w' ι' ro' h1 h2 h3 h4
    | normal => exact hk .normal S' a' w' ι' ro' h1 h2 h3 h4
    | ret => exact hk .ret S' a' w' ι' ro' h1 h2 h3 h4
    | exit i =>
      simp only [AExit.toExit, Exit.inBlock, blockK] at h4 ⊢
      cases hb : Nat.beq i id with
      | true =>
        rw [hb] at h4
        rw [if_pos (Nat.eq_of_beq_eq_true hb)]
        exact hk .normal S' a' w' ι' ro' h1 h2 h3 h4
      | false =>
        rw [hb] at h4
        rw [if_neg (fun e => by subst e; simp at hb)]
        exact hk (.exit i) S' a' w' ι' ro' h1 h2 h3 h4
  | loop body ih =>
    intro i j k Q i' b k' hp hns hc hk
    cases j with
    | zero =>
      cases hc
      exact ⟨rfl, hns, Q, hp, hk⟩
    | succ j =>
      obtain ⟨e1, rest⟩ := ih (i + 1) j _ _ i' b k' hp.inner hns hc fun e S' a' w' ι' ro' h1 h2 h3 h4 => (by
        cases e with
        | normal =>
          obtain ⟨ι2, g1, g2, g3⟩ := headAt_sound h i (hG i _ h4).1 h1 h2 h3
          exact (hG i _ h4).2.1 body Q hp.head a' w' ι2 ro' g1 g2 g3
        | exit id => exact hk (.exit id) S' a' w' ι' ro' h1 h2 h3 h4
        | goto l => exact hk (.goto l) S' a' w' ι' ro' h1 h2 h3 h4
        | ret => exact hk .ret S' a' w' ι' ro' h1 h2 h3 h4)
      exact ⟨by omega, rest⟩
  | _ => intro i j k Q i' b k' hp hns hc hk; cases hc

theorem ctxS_sound {R : Type} (hO : OracleOk E O) (hmix : P.follows .mixedOrders = true) {G : Nat → ASt E → Option R} {rr : R} (hG : ∀ i S, G i S = some rr → w0.k = none ∧ HdOk E w0 ro0 n c0 Q0 i S) :
    ∀ (c : Code) (i : Nat) (k : AExit → ASt E → Option R) (Q : Exit → Act → World → Prop) (sc : Code) (k' : AExit → ASt E → Option R), Placed P c0 Q0 i c Q → ctxS O h G i c k = some (sc, k') →
    (∀ e S' a' w' ι' ro', NoCond S'.tmps → Gam E w0 ro0 S' a' w' ι' ro' → S'.n = n → k e S' = some rr → Q e.toExit a' w') →
    ∃ Q', scopeAt P c Q = some (sc, Q') ∧ ∀ e S' a' w' ι' ro', NoCond S'.tmps → Gam E w0 ro0 S' a' w' ι' ro' → S'.n = n → k' e S' = some rr → Q' e.toExit a' w' := by
  intro c
  induction c with
  | scope c ih =>
    intro i k Q sc k' hp hc hk
    cases hc
    exact ⟨Q, rfl, hk⟩
  | seq x y ihx ihy =>
    intro i k Q sc k' hp hc hk
    simp only [ctxS] at hc
    split at hc
    · rename_i hx hy
      simp only [scopeAt, hx]
      refine ihx i _ _ sc k' hp.seq.1 hc fun e S' a' w' ι' ro' h1 h2 h3 h4 => ?_
      cases e with
      | normal => exact evCode_sound hO hmix hG y _ S' k Q a' w' ι' ro' hp.seq.2 (fun e => by rw [hy] at e; cases e) h1 h2 h3 h4 hk
      | exit id => exact hk (.exit id) S' a' w' ι' ro' h1 h2 h3 h4
      | goto l => exact hk (.goto l) S' a' w' ι' ro' h1 h2 h3 h4
      | ret => exact hk .ret S' a' w' ι' ro' h1 h2 h3 h4
    · rename_i hx hy
      simp only [scopeAt, hx]
      exact ihy _ k Q sc k' hp.seq.2 hc hk
    · cases hc
  | block id body ih =>
    intro i k Q sc k' hp hc hk
    refine ih i _ _ sc k' hp.block hc fun e S' a' w' ι' ro' h1 h2 h3 h4 => ?_
    cases e with
    | normal => exact hk .normal S' a' w' ι' ro' h1 h2 h3 h4
    | goto l => exact hk (.goto l) S' a' w' ι' ro' h1 h2 h3 h4
    | ret => exact hk .ret S' a' w' ι' ro' h1 h2 h3 h4
    | exit i =>
      simp only [AExit.toExit, Exit.inBlock, blockK] at h4 ⊢
      cases hb : Nat.beq i id with
      | true =>
        rw [hb] at h4
        rw [if_pos (Nat.eq_of_beq_eq_true hb)]
        exact hk .normal S' a' w' ι' ro' h1 h2 h3 h4
      | false =>
        rw [hb] at h4
        rw [if_neg (fun e => by subst e; simp at hb)]
        exact hk (.exit i) S' a' w' ι' ro' h1 h2 h3 h4
  | _ => intro i k Q sc k' hp hc hk; cases hc
/-- ONE ROUND, and what comes of it. -/
theorem segC_sound {R : Type} (hO : OracleOk E O) (hmix : P.follows .mixedOrders = true) {G : Nat → ASt E → Option R} {rr : R} (hG : ∀ i S, G i S = some rr → w0.k = none ∧ HdOk E w0 ro0 n c0 Q0 i S) {j : Nat} {S : ASt E} {k : AExit → ASt E → Option R}
    (hk : ∀ e S' a' w' ι' ro', NoCond S'.tmps → Gam E w0 ro0 S' a' w' ι' ro' → S'.n = n → k e S' = some rr → Q0 e.toExit a' w') (hs : segC O h G c0 j S k = some rr) : HdOk E w0 ro0 n c0 Q0 j S := by
  unfold segC at hs
  split at hs
  · rename_i hj
    have hj := Nat.le_of_ble_eq_true hj
    split at hs
    · rename_i hn
      have hnl := Nat.le_of_ble_eq_true hn
      refine ⟨fun b Q hc => ?_, fun l hl sc Q rest hsc hf a w ι ro hnc hg hn => ?_⟩
      · rw [contAt_none c0 j Q0 (by omega)] at hc; cases hc
      · unfold segS at hs
        split at hs
        · rename_i sc2 k2 hc
          obtain ⟨Q2, q1, q2⟩ := ctxS_sound hO hmix hG c0 0 k Q0 sc2 k2 Placed.whole hc hk
          rw [hsc] at q1
          cases q1
          subst hl
          rw [Nat.add_sub_cancel_left, hf] at hs
          simp only at hs
          split at hs
          · rename_i hns hz
            refine evCode_sound hO hmix hG rest 0 S _ _ a w ι ro (Placed.of_zero hz) (fun e => by rw [hns] at e; cases e) hnc hg hn hs fun e S' a' w' ι' ro' h1 h2 h3 h4 => ?_
            cases e with
            | normal => exact q2 .normal S' a' w' ι' ro' h1 h2 h3 h4
            | exit id => exact q2 (.exit id) S' a' w' ι' ro' h1 h2 h3 h4
            | ret => exact q2 .ret S' a' w' ι' ro' h1 h2 h3 h4
            | goto l =>
              simp only [scopeK] at h4
              split at h4
              · rename_i rest2 hf2
                obtain ⟨ι2, g1, g2, g3⟩ := headAt_sound h (100 + l) (hG _ _ h4).1 h1 h2 h3
                exact ⟨rest2, hf2, JumpWp.of ((hG _ _ h4).2.2 l rfl sc Q rest2 hsc hf2 a' w' ι2 ro' g1 g2 g3)⟩
              · cases h4
          · cases hs
        · cases hs
    · cases hs
  rename_i hj
  split at hs
  · cases hs
  rename_i hns
  split at hs
  · rename_i i b k' hc
    refine ⟨?_, fun l hl => absurd (Nat.ble_eq_true_of_le (show 100 ≤ j by omega)) (by rw [hj]; decide)⟩
    obtain ⟨e1, hnb, Q', hp, hk'⟩ := ctxK_sound hO hmix hG c0 0 j k Q0 i b k' Placed.whole hns hc hk
    rw [Nat.zero_add] at e1
    subst e1
    intro b2 Q2 hc2 a w ι ro hnc hg hn
    rw [hp.head] at hc2
    cases hc2
    refine LoopWp.round (evCode_sound hO hmix hG b (i + 1) S _ _ a w ι ro hp.inner (fun e => by rw [hnb] at e; cases e) hnc hg hn hs fun e S' a' w' ι' ro' h1 h2 h3 h4 => ?_)
    cases e with
    | normal =>
      obtain ⟨ι2, g1, g2, g3⟩ := headAt_sound h i (hG i _ h4).1 h1 h2 h3
      exact (hG i _ h4).2.1 b Q' hp.head a' w' ι2 ro' g1 g2 g3
    | exit id => exact hk' (.exit id) S' a' w' ι' ro' h1 h2 h3 h4
    | goto l => exact hk' (.goto l) S' a' w' ι' ro' h1 h2 h3 h4
    | ret => exact hk' .ret S' a' w' ι' ro' h1 h2 h3 h4
  · cases hs

theorem argsT_look : ∀ {args : List (TV E)} {i t : Nat} {x : AV E}, look (argsT args i) t = some x → i ≤ t ∧ ∃ y, args[t - i]? = some y ∧ x = expandA y.1 y.2
  | [], _, _, _, h => by cases h
  | ⟨ty, y⟩ :: r, i, t, x, h => by
    simp only [argsT, look] at h
    split at h
    · rename_i hb
      have := Nat.eq_of_beq_eq_true hb
      subst this
      cases h
      exact ⟨Nat.le_refl _, ⟨ty, y⟩, by simp, rfl⟩
    · rename_i hb
      obtain ⟨h1, z, h2, h3⟩ := argsT_look h
      exact ⟨by omega, z, by rw [show t - i = (t - (i + 1)) + 1 from by omega]; simpa using h2, h3⟩

theorem expandA_noCond {t : E.Ty} {x : E.Den t} : isCond (expandA t x) = false := by
  unfold expandA
  split
  · rfl
  · split <;> rfl

theorem argsT_noCond : ∀ (args : List (TV E)) (i : Nat), NoCond (argsT args i)
  | [], _ => fun p h => by cases h
  | ⟨t, x⟩ :: r, i => fun p h => by
    cases h with
    | head => exact expandA_noCond
    | tail _ h => exact argsT_noCond r (i + 1) p h

def resV (tmps : Array Value) : ResultVar → Sem Value
  | .tmp t => pure (tmps.getD t undef)
  | .cell q ty => do loadVar ty (← asAddr (tmps.getD q undef))

theorem valA_rep {S : ASt E} {a : Act} {w : World} {ι : Nat → Option Gh} {ro : Nat → Nat → Prop} (hg : Gam E w0 ro0 S a w ι ro) {r : ResultVar} {x : AV E} (h : valA S r = some x) :
    ∃ v, (resV a.tmps r).run P w = .ok v w ∧ Rep E w ro ι v x := by
  have hasm : AsmOk a [] := fun j b hb => by simp [hasAsm] at hb
  cases r with
  | tmp t =>
    cases h
    exact ⟨_, rfl, getA_rep (E := E) hg.tmps hasm (.tmp t)⟩
  | cell q ty =>
    have hv := getA_rep (E := E) hg.tmps hasm (.tmp q)
    change Rep E w ro ι (a.tmps.getD q undef) (slotA [] (look S.tmps q)) at hv
    generalize hu : a.tmps.getD q undef = u at hv
    obtain ⟨val, hrun, hr⟩ := run_load_done (S := S) hg.objs hv h
    refine ⟨val, ?_, hr⟩
    show (do loadVar ty (← asAddr (a.tmps.getD q undef)) : Sem Value).run P w = _
    rw [hu]
    simp only [Instr.loadAt, Sem.run_bind] at hrun ⊢
    cases u with
    | pointer p =>
      cases p with
      | some ad => simpa [Instr.sureAddr, asAddr] using hrun
      | none => simp [Instr.sureAddr, stuck, Result.andThen] at hrun
    | _ => simp [Instr.sureAddr, stuck, Result.andThen] at hrun

theorem resA_rep {S : ASt E} {a : Act} {w : World} {ι : Nat → Option Gh} {ro : Nat → Nat → Prop} (hg : Gam E w0 ro0 S a w ι ro) : ∀ {rs : List ResultVar} {Ts : List TypeId} {xs : List (TV E)}, resA S rs Ts = some xs →
    ∃ vs : List Value, (rs.mapM (resV a.tmps)).run P w = Result.ok vs w ∧ ArgsRep E w ro vs xs
  | [], [], xs, h => by cases h; exact ⟨[], by simp, trivial⟩
  | r :: rs, T :: Ts, xs, h => by
    unfold resA at h
    split at h
    · rename_i t ht
      split at h
      · rename_i v hv
        split at h
        · rename_i x hx
          split at h
          · rename_i ys hys
            cases h
            obtain ⟨u, hu, hr⟩ := valA_rep hg hv
            obtain ⟨us, hus, hrs⟩ := resA_rep hg hys
            exact ⟨u :: us, by rw [List.mapM_cons]; simp only [Sem.run_bind, hu, Result.andThen_ok, hus, Sem.run_pure], foldA_rep hr hx, hrs⟩
          · cases h
        · cases h
      · cases h
    · cases h
  | [], _ :: _, _, h => by cases h
  | _ :: _, [], _, h => by cases h

theorem below_of_grown {w w' : World} (h : w.grownBy w' none) : Below w.heap.size w w' := ⟨h.os, h.tape, h.output, h.size, fun k hk => h.block k hk (fun e => by cases e)⟩

/-- What is to hold at a function's end. -/
def EndOk (E : Env P) (fn : Func) (res : List (TV E)) (w : World) (ro : Nat → Nat → Prop) : Exit → Act → World → Prop :=
  bodyPost P fn fun e w' => ∃ v, e = .returned v ∧ Below w.heap.size w w' ∧ RetRep E w' (fun k o => ro k o ∨ (w.heap.size ≤ k ∧ k < w'.heap.size)) v res

theorem endK_sound {fn : Func} {res : List (TV E)} {w : World} {ro : Nat → Nat → Prop} {e : AExit} {S' : ASt E} {a' : Act} {w' : World} {ι' : Nat → Option Gh} {ro' : Nat → Nat → Prop} (hnc' : NoCond S'.tmps) (hg' : Gam E ⟨w, none, none⟩ ro S' a' w' ι' ro') (hk : endK fn e S' = some res) :
    EndOk E fn res w ro e.toExit a' w' := by
  obtain ⟨_, hg'⟩ := freezeS_sound hnc' hg'
  generalize frzRo S'.objs ι' ro' = ro' at hg'
  have fin : resA (freezeS S') fn.results.toList fn.resultTypes.toList = some res → a'.defers = [] ∧ ∃ v, (results fn a'.tmps).run P w' = .ok v w' ∧
      (∃ v', Ending.returned v = .returned v' ∧ Below w.heap.size w w' ∧ RetRep E w' (fun k o => ro k o ∨ (w.heap.size ≤ k ∧ k < w'.heap.size)) v' res) := by
    intro hres
    obtain ⟨vs, hvs, hrep⟩ := resA_rep hg' hres
    have hmono : ArgsRep E w' (fun k o => ro k o ∨ (w.heap.size ≤ k ∧ k < w'.heap.size)) vs res := by
      have hmm : ∀ (vs : List Value) (rs : List (TV E)), ArgsRep E w' ro' vs rs → ArgsRep E w' (fun k o => ro k o ∨ (w.heap.size ≤ k ∧ k < w'.heap.size)) vs rs := by
        intro vs
        induction vs with
        | nil => intro rs h; cases rs <;> exact h
        | cons v vs ih =>
          intro rs h
          cases rs with
          | nil => exact h
          | cons r rs =>
            exact ⟨h.1.mono (fun k o hk => by
              rcases hg'.base.ronew k o hk with h | h
              · exact .inl h
              · rcases h with h | h
                · exact .inr ⟨h, hg'.base.rolt k o hk⟩
                · cases h) (fun _ _ _ => rfl), ih rs h.2⟩
      exact hmm vs res hrep
    have hl := (ArgsRep.at_ vs res hrep).1
    refine ⟨hg'.base.defers, if h : vs.length = 1 then vs[0] else .tuple vs.toArray, ?_, _, rfl, below_of_grown hg'.base.below, ?_⟩
    · show (do let vs ← fn.results.mapM (resV a'.tmps); pure (if h : vs.size = 1 then vs[0] else .tuple vs) : Sem Value).run P w' = _
      rw [Array.mapM_eq_mapM_toList]
      simp only [Sem.run_bind, Sem.run_map, hvs]
      simp [Result.andThen]
    · unfold RetRep
      split
      · rename_i t x
        match vs, hl, hmono with
        | [v], _, hm => exact hm.1
      · rename_i hne
        by_cases h1 : vs.length = 1
        · exfalso
          match res, hl.symm.trans h1, hne with
          | [⟨t, x⟩], _, hne => exact hne t x rfl
        · rw [dif_neg h1]
          exact ⟨vs, rfl, hmono⟩
  cases e with
  | normal => exact fin hk
  | ret => exact fin hk
  | exit id => cases hk
  | goto l => cases hk

/-- From the head of its loop i, in this state, the function hands back res. -/
def Ev (E : Env P) (fn : Func) (res : List (TV E)) (i : Nat) (S : ASt E) : Prop :=
  ∀ (w0 : World) ro0 n c, fn.body = some c → HdOk E ⟨w0, none, none⟩ ro0 n c (EndOk E fn res w0 ro0) i S

open Classical in
/-- The word of a loop's head on what comes of it. -/
noncomputable def Gr (E : Env P) (fn : Func) (res : List (TV E)) (i : Nat) (S : ASt E) : Option (List (TV E)) := if Ev E fn res i S then some res else none

theorem Gr_of {fn : Func} {res : List (TV E)} {i : Nat} {S : ASt E} (h : Ev E fn res i S) : Gr E fn res i S = some res := if_pos h

theorem Gr_ev {fn : Func} {res r : List (TV E)} {i : Nat} {S : ASt E} (h : Gr E fn res i S = some r) : Ev E fn res i S := by
  unfold Gr at h
  split at h
  · assumption
  · cases h

/-- ONE ROUND OF A LOOP. -/
theorem Ev.step (hO : OracleOk E O) (hmix : P.follows .mixedOrders = true) {fn : Func} {res : List (TV E)} {j : Nat} {S : ASt E} (hs : runL O h (Gr E fn res) fn j S = some res) : Ev E fn res j S := by
  intro w0 ro0 n c hc
  unfold runL at hs
  rw [hc] at hs
  exact segC_sound hO hmix (fun i S hi => ⟨rfl, Gr_ev hi w0 ro0 n c hc⟩) (fun e S' a' w' ι' ro' h1 h2 _ h4 => endK_sound h1 h2 h4) hs

/-- WHAT THE INTERPRETER SAYS OF A FUNCTION HOLDS OF ITS CALLS. -/
theorem callsOk_of (hO : OracleOk E O) (hmix : P.follows .mixedOrders = true) {f : FuncId} {fn : Func} (hf : P.funcs[f]? = some fn) {args res : List (TV E)} (hr : runE O h (Gr E fn res) fn args = some res) : CallsOk E f args res := by
  unfold runE at hr
  split at hr
  · rename_i c hc
    intro w ro vals hargs hrolt
    obtain ⟨hlen, hat⟩ := ArgsRep.at_ vals args hargs
    refine calls_of_wp hf hc ?_
    have hg : Gam E ⟨w, none, none⟩ ro (startS fn args) { tmps := vals.toArray ++ Array.replicate (fn.ntmps - vals.toArray.size) undef, defers := [] } w (fun _ => none) ro := {
      base := ⟨⟨rfl, rfl, rfl, Nat.le_refl _, fun _ _ _ => rfl⟩, hrolt, fun k o h => .inl h, (fun id gh k h => by cases h), rfl, (fun q h => by cases h)⟩
      size := by simp [startS, hlen]
      tmps := fun t x hl => by
        obtain ⟨_, y, hy, rfl⟩ := argsT_look hl
        rw [Nat.sub_zero] at hy
        have hlt : t < vals.length := by rw [hlen]; exact (List.getElem?_eq_some_iff.1 hy).1
        have hv := List.getElem?_eq_getElem hlt
        refine ⟨vals[t], by simp [Array.getElem?_append, hlt], ?_⟩
        have hr : Rep E w ro (fun _ => none) vals[t] (expandA y.1 y.2) := expandA_rep (hat t _ y hv hy)
        have hc := expandA_noCond (E := E) (t := y.1) (x := y.2)
        generalize expandA y.1 y.2 = z at hr hc
        cases z <;> first | exact hr | cases hc
      objs := fun id o hl => by cases hl
      inj := fun id id' o o' gh gh' k hl => by cases hl
      fresh := fun _ _ => rfl
      ids := fun id o hl => by cases hl }
    exact evCode_sound (n := (startS fn args).n) (Q0 := EndOk E fn res w ro) (c0 := c) hO hmix (fun i S hi => ⟨rfl, Gr_ev hi w ro _ c hc⟩) c 0 (startS fn args) (endK fn) _ _ w _ ro Placed.whole (fun _ => rfl) (argsT_noCond args 0) hg rfl hr
      fun e S' a' w' ι' ro' h1 h2 _ h4 => endK_sound h1 h2 h4
  · cases hr
end
end Go.Proofs.YtfoflgciceckoaaGreatDoor.Mir
