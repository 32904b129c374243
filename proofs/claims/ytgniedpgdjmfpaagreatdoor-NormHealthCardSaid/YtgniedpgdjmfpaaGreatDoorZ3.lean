/- Part 3 of a proof: the texts MirP MirQ MirR MirU Shelf Plain R1 R2, one behind the other. -/
import Derived.Test.YtgniedpgdjmfpaaGreatDoorZ2
import Derived.Lib.SliceRun
import Derived.Shelf.Strings.Builder1
import Derived.Shelf.Strings.Builder2
import Derived.Shelf.Strings.OnBuilder
import Derived.Shelf.Small.Bits
import Derived.Shelf.Small.Strs
import Derived.Shelf.Small.Wraps
import Derived.Shelf.Strconv.Itoa0
import Derived.Shelf.Strings.Search1
import Derived.Shelf.Strings.Search2
import Derived.Shelf.Strings.Search3
import Derived.Shelf.Strings.Cut
import Derived.Shelf.Strings.Count
import Derived.Shelf.LaysM
import Derived.Shelf.Strings.Shaped
import Derived.Shelf.Sort.Plain
import Derived.Shelf.Strings.Prefix
import Derived.Shelf.Strings.Split
import Derived.Shelf.Strings.Replace
import Derived.Shelf.Unicode.DecodeSlow
import Derived.Shelf.Slices.CompactS
import Derived.Shelf.Slices.Cells
import Derived.Shelf.Slices.In.SortNone
import Derived.Test.YtgniedpgdjmfpaaGreatDoorProg
import Derived.Lib.SlicesCompact
import Derived.Test.YtgniedpgdjmfpaaGreatDoorRows
import Derived.Sort.OwnSorted
import Derived.Lib.AppendZeros
import Derived.Sort.Walk0
namespace Go.Proofs.YtgniedpgdjmfpaaGreatDoor.Mir
open Go Go.RowKit
section
variable {P : Program} {E : Env P}
def valA (S : ASt E) (r : ResultVar) : Option (AV E) := match r with
  | .tmp q => some (slotA [] (look S.tmps q))
  | .cell q ty => evLoad S.objs ty (slotA [] (look S.tmps q))
def resA (S : ASt E) : List ResultVar → List TypeId → Option (List (TV E))
  | [], [] => some []
  | r :: rs, T :: Ts => match E.code T with
    | some t => match valA S r with
      | some v => match foldA t v with
        | some x => match resA S rs Ts with
          | some xs => some (⟨t, x⟩ :: xs)
          | none => none
        | none => none
      | none => none
    | none => none
  | _, _ => none
def argsT : List (TV E) → Nat → List (Nat × AV E)
  | [], _ => []
  | ⟨t, x⟩ :: r, i => (i, expandA t x) :: argsT r (i + 1)
def startS (fn : Func) (args : List (TV E)) : ASt E := ⟨args.length + (fn.ntmps - args.length), argsT args 0, [], 0⟩
def endK (fn : Func) (e : AExit) (S : ASt E) : Option (List (TV E)) := match e with
  | .exit _ => none
  | .goto _ => none
  | _ => resA (freezeS S) fn.results.toList fn.resultTypes.toList
def runE (O : Oracle E) (h : Hint E) (G : Nat → ASt E → Option (List (TV E))) (fn : Func) (args : List (TV E)) : Option (List (TV E)) := match fn.body with
  | some c => evCode O h G 0 c (startS fn args) (endK fn)
  | none => none
def runL (O : Oracle E) (h : Hint E) (G : Nat → ASt E → Option (List (TV E))) (fn : Func) (j : Nat) (S : ASt E) : Option (List (TV E)) := match fn.body with
  | some c => segC O h G c j S (endK fn)
  | none => none
end
section
variable {P : Program}
def LoopWp (P : Program) (c : Code) (Q : Exit → Act → World → Prop) (a : Act) (w : World) : Prop :=
  ∀ b k cs, ∃ e a' w', Q e a' w' ∧ Arrives P (lone (b.at a (.code c :: .inLoop c :: k)) cs w) b k cs e a' w'
theorem LoopWp.wp {c : Code} {Q : Exit → Act → World → Prop} {a : Act} {w : World} (h : LoopWp P c Q a w) : (Code.loop c).wp P Q a w := by
  intro b k cs
  obtain ⟨e, a', w', hq, harr⟩ := h b k cs
  exact ⟨e, a', w', hq, .of_steps (.one step_loop) harr⟩
theorem LoopWp.round {c : Code} {Q : Exit → Act → World → Prop} {a : Act} {w : World} (h : c.wp P (Exit.then (LoopWp P c Q) Q) a w) : LoopWp P c Q a w := by
  intro b k cs
  obtain ⟨e, a₁, w₁, hq, harr⟩ := h b (.inLoop c :: k) cs
  cases e with
  | normal =>
    obtain ⟨e₂, a₂, w₂, hq₂, harr₂⟩ := hq b k cs
    exact ⟨e₂, a₂, w₂, hq₂, .of_steps (Steps.trans harr (.one step_inLoop)) harr₂⟩
  | exit id => exact ⟨_, a₁, w₁, hq, .pass (x := .inLoop c) rfl (fun _ _ => .inl (by simp)) harr⟩
  | goto l => exact ⟨_, a₁, w₁, hq, .pass (x := .inLoop c) rfl (fun _ _ => .inl (by simp)) harr⟩
  | ret => exact ⟨_, a₁, w₁, hq, .pass (x := .inLoop c) rfl (fun _ _ => .inl (by simp)) harr⟩
  | panic ch => exact ⟨_, a₁, w₁, hq, .pass (x := .inLoop c) rfl (fun _ _ => .inl (by simp)) harr⟩
  | outgrown => exact ⟨_, a₁, w₁, hq, .pass (x := .inLoop c) rfl (fun _ _ => .inl (by simp)) harr⟩
def JumpWp (P : Program) (c rest : Code) (Q : Exit → Act → World → Prop) (a : Act) (w : World) : Prop :=
  ∀ b k cs, ∃ e a' w', Q e a' w' ∧ Arrives P (lone (b.at a (.code rest :: .inScope c :: k)) cs w) b k cs e a' w'
def scPost (P : Program) (c : Code) (Q : Exit → Act → World → Prop) : Exit → Act → World → Prop
  | .goto l, a, w => ∃ rest, findLabel c l = some rest ∧ JumpWp P c rest Q a w
  | e, a, w => Q e a w
theorem JumpWp.of {c rest : Code} {Q : Exit → Act → World → Prop} {a : Act} {w : World} (h : rest.wp P (scPost P c Q) a w) : JumpWp P c rest Q a w := by
  intro b k cs
  obtain ⟨e, a₁, w₁, hq, harr⟩ := h b (.inScope c :: k) cs
  cases e with
  | normal => exact ⟨.normal, a₁, w₁, hq, Steps.trans harr (.one step_inScope)⟩
  | exit id => exact ⟨.exit id, a₁, w₁, hq, fun k' hk => harr k' (by simp [exitTo, hk])⟩
  | goto l' =>
    obtain ⟨rest', hf, hJ⟩ := hq
    have hg : gotoIn l' (.inScope c :: k) = some (.code rest' :: .inScope c :: k) := by simp [gotoIn, hf]
    obtain ⟨e₂, a₂, w₂, hq₂, harr₂⟩ := hJ b k cs
    exact ⟨e₂, a₂, w₂, hq₂, .of_steps (harr _ hg) harr₂⟩
  | ret => exact ⟨_, a₁, w₁, hq, harr⟩
  | panic ch => exact ⟨_, a₁, w₁, hq, harr⟩
  | outgrown => exact ⟨_, a₁, w₁, hq, harr⟩
theorem wp_scopeJ {c : Code} {Q : Exit → Act → World → Prop} {a : Act} {w : World} (h : c.wp P (scPost P c Q) a w) : (Code.scope c).wp P Q a w := by
  intro b k cs
  obtain ⟨e, a₁, w₁, hq, harr⟩ := h b (.inScope c :: k) cs
  cases e with
  | normal => exact ⟨.normal, a₁, w₁, hq, .head step_scope (Steps.trans harr (.one step_inScope))⟩
  | exit id => exact ⟨.exit id, a₁, w₁, hq, fun k' hk => .head step_scope (harr k' (by simp [exitTo, hk]))⟩
  | goto l' =>
    obtain ⟨rest', hf, hJ⟩ := hq
    have hg : gotoIn l' (.inScope c :: k) = some (.code rest' :: .inScope c :: k) := by simp [gotoIn, hf]
    obtain ⟨e₂, a₂, w₂, hq₂, harr₂⟩ := hJ b k cs
    exact ⟨e₂, a₂, w₂, hq₂, .of_steps (.head step_scope (harr _ hg)) harr₂⟩
  | ret => exact ⟨_, a₁, w₁, hq, .of_steps (.one step_scope) harr⟩
  | panic ch => exact ⟨_, a₁, w₁, hq, .of_steps (.one step_scope) harr⟩
  | outgrown => exact ⟨_, a₁, w₁, hq, .of_steps (.one step_scope) harr⟩
def scopeAt (P : Program) : Code → (Exit → Act → World → Prop) → Option (Code × (Exit → Act → World → Prop))
  | .scope c, Q => some (c, Q)
  | .seq x y, Q => (match hasScope x with
    | true => scopeAt P x (Exit.then (y.wp P Q) Q)
    | false => scopeAt P y Q)
  | .block id b, Q => scopeAt P b (Exit.inBlock id Q)
  | _, _ => none
def contAt (P : Program) : Code → Nat → (Exit → Act → World → Prop) → Option (Code × (Exit → Act → World → Prop))
  | .loop b, 0, Q => some (b, Q)
  | .loop b, j + 1, Q => contAt P b j (Exit.then (LoopWp P b Q) Q)
  | .seq x y, j, Q => match Nat.blt j (nloops x) with
    | true => contAt P x j (Exit.then (y.wp P Q) Q)
    | false => contAt P y (j - nloops x) Q
  | .cond _ x y, j, Q => match Nat.blt j (nloops x) with
    | true => contAt P x j Q
    | false => contAt P y (j - nloops x) Q
  | .block id b, j, Q => contAt P b j (Exit.inBlock id Q)
  | _, _, _ => none
def Placed (P : Program) (c0 : Code) (Q0 : Exit → Act → World → Prop) (i : Nat) (c : Code) (Q : Exit → Act → World → Prop) : Prop :=
  ∀ j, j < nloops c → contAt P c0 (i + j) Q0 = contAt P c j Q
theorem blt_true {a b : Nat} (h : a < b) : Nat.blt a b = true := by simpa [Nat.blt_eq] using h
theorem blt_false {a b : Nat} (h : b ≤ a) : Nat.blt a b = false := by
  cases hb : Nat.blt a b with
  | false => rfl
  | true => rw [Nat.blt_eq] at hb; omega
section
variable {c0 : Code} {Q0 Q : Exit → Act → World → Prop} {i : Nat}
theorem Placed.seq {x y : Code} (h : Placed P c0 Q0 i (.seq x y) Q) : Placed P c0 Q0 i x (Exit.then (y.wp P Q) Q) ∧ Placed P c0 Q0 (i + nloops x) y Q := by
  refine ⟨fun j hj => ?_, fun j hj => ?_⟩
  · rw [h j (by show j < nloops x + nloops y; omega)]
    simp only [contAt, blt_true hj]
  · rw [Nat.add_assoc, h (nloops x + j) (by show nloops x + j < nloops x + nloops y; omega)]
    simp only [contAt, blt_false (show nloops x ≤ nloops x + j by omega), Nat.add_sub_cancel_left]
theorem Placed.cond {c : Operand} {x y : Code} (h : Placed P c0 Q0 i (.cond c x y) Q) : Placed P c0 Q0 i x Q ∧ Placed P c0 Q0 (i + nloops x) y Q := by
  refine ⟨fun j hj => ?_, fun j hj => ?_⟩
  · rw [h j (by show j < nloops x + nloops y; omega)]
    simp only [contAt, blt_true hj]
  · rw [Nat.add_assoc, h (nloops x + j) (by show nloops x + j < nloops x + nloops y; omega)]
    simp only [contAt, blt_false (show nloops x ≤ nloops x + j by omega), Nat.add_sub_cancel_left]
theorem Placed.block {id : Nat} {b : Code} (h : Placed P c0 Q0 i (.block id b) Q) : Placed P c0 Q0 i b (Exit.inBlock id Q) := fun j hj => h j hj
theorem Placed.head {b : Code} (h : Placed P c0 Q0 i (.loop b) Q) : contAt P c0 i Q0 = some (b, Q) := h 0 (by show 0 < nloops b + 1; omega)
theorem Placed.inner {b : Code} (h : Placed P c0 Q0 i (.loop b) Q) : Placed P c0 Q0 (i + 1) b (Exit.then (LoopWp P b Q) Q) := fun j hj => by
  rw [Nat.add_assoc, Nat.add_comm 1 j]
  exact h (j + 1) (by show j + 1 < nloops b + 1; omega)
theorem Placed.of_zero {c : Code} (h : nloops c = 0) : Placed P c0 Q0 i c Q := fun j hj => by omega
theorem Placed.whole : Placed P c0 Q0 0 c0 Q0 := fun j _ => by rw [Nat.zero_add]
end
end
section
variable {P : Program} {E : Env P} {O : Oracle E} {h : Hint E} {w0 : Start} {ro0 : Nat → Nat → Prop} {n : Nat} {c0 : Code} {Q0 : Exit → Act → World → Prop}
def HeadOk (E : Env P) (w0 : Start) (ro0 : Nat → Nat → Prop) (n : Nat) (c0 : Code) (Q0 : Exit → Act → World → Prop) (i : Nat) (S : ASt E) : Prop :=
  ∀ b Q, contAt P c0 i Q0 = some (b, Q) → ∀ a w ι ro, NoCond S.tmps → Gam E w0 ro0 S a w ι ro → S.n = n → LoopWp P b Q a w
def LabOk (E : Env P) (w0 : Start) (ro0 : Nat → Nat → Prop) (n : Nat) (c0 : Code) (Q0 : Exit → Act → World → Prop) (i : Nat) (S : ASt E) : Prop :=
  ∀ l, i = 100 + l → ∀ sc Q rest, scopeAt P c0 Q0 = some (sc, Q) → findLabel sc l = some rest → ∀ a w ι ro, NoCond S.tmps → Gam E w0 ro0 S a w ι ro → S.n = n → rest.wp P (scPost P sc Q) a w
def HdOk (E : Env P) (w0 : Start) (ro0 : Nat → Nat → Prop) (n : Nat) (c0 : Code) (Q0 : Exit → Act → World → Prop) (i : Nat) (S : ASt E) : Prop := HeadOk E w0 ro0 n c0 Q0 i S ∧ LabOk E w0 ro0 n c0 Q0 i S
theorem contAt_none : ∀ (c : Code) (j : Nat) (Q : Exit → Act → World → Prop), nloops c ≤ j → contAt P c j Q = none
  | .loop b, 0, Q, h => by simp [nloops] at h
  | .loop b, j + 1, Q, h => contAt_none b j _ (by simp only [nloops] at h; omega)
  | .seq x y, j, Q, h => by
    simp only [nloops] at h
    simp only [contAt, blt_false (show nloops x ≤ j by omega)]
    exact contAt_none y _ Q (by omega)
  | .cond _ x y, j, Q, h => by
    simp only [nloops] at h
    simp only [contAt, blt_false (show nloops x ≤ j by omega)]
    exact contAt_none y _ Q (by omega)
  | .block id b, j, Q, h => contAt_none b j _ (by simpa only [nloops] using h)
  | .skip, _, _, _ => rfl
  | .ret, _, _, _ => rfl
  | .exit _, _, _, _ => rfl
  | .region .., _, _, _ => rfl
  | .scope _, _, _, _ => rfl
  | .label _, _, _, _ => rfl
  | .goto _, _, _, _ => rfl
  | .rangeFunc .., _, _, _ => rfl
  | .refuse _, _, _, _ => rfl
theorem headAt_sound (hh : Hint E) (i : Nat) (hio : w0.k = none) {S : ASt E} {a : Act} {w : World} {ι : Nat → Option Gh} {ro : Nat → Nat → Prop} (hnc : NoCond S.tmps) (hg : Gam E w0 ro0 S a w ι ro) (hn : S.n = n) :
    ∃ ι', NoCond (headAt hh i S).tmps ∧ Gam E w0 ro0 (headAt hh i S) a w ι' ro ∧ (headAt hh i S).n = n := by
  obtain ⟨ι1, hnc1, hg1, hn1⟩ := nilS_sound (atN hh.nils i) S ι hnc hg
  obtain ⟨ι', hnc', hg'⟩ := headS_sound (atN hh.live i) hio hnc1 hg1
  exact ⟨ι', hnc', hg', hn1.trans hn⟩
theorem evCode_sound {R : Type} (hO : OracleOk E O) (hmix : P.follows .mixedOrders = true) {G : Nat → ASt E → Option R} {rr : R} (hG : ∀ i S, G i S = some rr → w0.k = none ∧ HdOk E w0 ro0 n c0 Q0 i S) :
    ∀ (c : Code) (i : Nat) (S : ASt E) (k : AExit → ASt E → Option R) (Q : Exit → Act → World → Prop) (a : Act) (w : World) (ι : Nat → Option Gh) (ro : Nat → Nat → Prop), Placed P c0 Q0 i c Q → (hasScope c = true → scopeAt P c Q = scopeAt P c0 Q0) →
    NoCond S.tmps → Gam E w0 ro0 S a w ι ro → S.n = n → evCode O h G i c S k = some rr →
    (∀ e S' a' w' ι' ro', NoCond S'.tmps → Gam E w0 ro0 S' a' w' ι' ro' → S'.n = n → k e S' = some rr → Q e.toExit a' w') → c.wp P Q a w := by
  intro c
  induction c with
  | skip => intro i S k Q a w ι ro _ _ hnc hg hn h hk; exact wp_skip (hk .normal S a w ι ro hnc hg hn h)
  | ret => intro i S k Q a w ι ro _ _ hnc hg hn h hk; exact wp_ret (hk .ret S a w ι ro hnc hg hn h)
  | exit id => intro i S k Q a w ι ro _ _ hnc hg hn h hk; exact wp_exit (hk (.exit id) S a w ι ro hnc hg hn h)
  | region id ops draw =>
    intro i S k Q a w ι ro _ _ hnc hg hn h hk
    have go : ∀ (S : ASt E) (ro : Nat → Nat → Prop), NoCond S.tmps → Gam E w0 ro0 S a w ι ro → S.n = n → evReg O ops draw S (k .normal) = some rr → (Code.region id ops draw).wp P Q a w := by
      intro S ro hnc hg hn h
      cases draw with
      | true =>
        exact evDraw_sound (n := S.n) (glob := S.tmps) (objs := S.objs) (next := S.next) hO hmix hnc hg (fun S' a' w' ι' ro' h1 h2 h3 h4 => hk .normal S' a' w' ι' ro' h1 h2 (h3.trans hn) h4) h
      | false =>
        refine wp_region_list (evSeq_sound (n := S.n) (glob := S.tmps) hO hnc (fun S' a' w' ι' ro' h1 h2 h3 h4 => hk .normal S' a' w' ι' ro' h1 h2 (h3.trans hn) h4) ops.toList [] S.objs S.next a w ι ro hg h)
    simp only [evCode] at h
    have fin : ∀ (l1 : List (Nat × Nat)) (l2 : List Nat) (S : ASt E) (ro : Nat → Nat → Prop), NoCond S.tmps → Gam E w0 ro0 S a w ι ro → S.n = n → splitK l1 (openS l2 S) (fun S' => evReg O ops draw S' (k .normal)) = some rr → (Code.region id ops draw).wp P Q a w := by
      intro l1 l2 S ro hnc hg hn h
      obtain ⟨ro1, g1, g2, g3⟩ := openS_sound l2 S ro hnc hg
      obtain ⟨S2, g4, g5, g6, g7⟩ := splitK_sound _ _ g1 g2 h
      exact go S2 ro1 g4 g5 (g6.trans (g3.trans hn)) g7
    split at h
    · obtain ⟨h1, h2⟩ := freezeS_sound hnc hg
      exact fin _ _ (freezeS S) _ h1 h2 hn h
    · exact fin _ _ S ro hnc hg hn h
  | seq x y ihx ihy =>
    intro i S k Q a w ι ro hp hs hnc hg hn h hk
    simp only [evCode] at h
    split at h
    · cases h
    · rename_i hxy
      have sx : hasScope x = true → scopeAt P x (Exit.then (y.wp P Q) Q) = scopeAt P c0 Q0 := fun hx => by
        rw [← hs (by simp only [hasScope, hx, Bool.true_or])]
        simp only [scopeAt, hx]
      have sy : hasScope y = true → scopeAt P y Q = scopeAt P c0 Q0 := fun hy => by
        have hx : hasScope x = false := by
          cases hq : hasScope x with
          | false => rfl
          | true => rw [hq, hy] at hxy; cases hxy
        rw [← hs (by simp only [hasScope, hy, Bool.or_true])]
        simp only [scopeAt, hx]
      refine wp_seq (ihx i S _ _ a w ι ro hp.seq.1 sx hnc hg hn h fun e S' a' w' ι' ro' h1 h2 h3 h4 => ?_)
      cases e with
      | normal => exact ihy _ S' k Q a' w' ι' ro' hp.seq.2 sy h1 h2 h3 h4 hk
      | exit id => exact hk (.exit id) S' a' w' ι' ro' h1 h2 h3 h4
      | ret => exact hk .ret S' a' w' ι' ro' h1 h2 h3 h4
      | goto l => exact hk (.goto l) S' a' w' ι' ro' h1 h2 h3 h4
  | cond c x y ihx ihy =>
    intro i S k Q a w ι ro hp _ hnc hg hn h hk
    have hc := getA_rep (E := E) (asm := []) hg.tmps (fun j b hb => by simp [hasAsm] at hb) c
    simp only [evCode] at h
    split at h
    · cases h
    · rename_i hxy
      rw [Bool.or_eq_false_iff] at hxy
      split at h
      · rename_i b hb
        rw [hb] at hc
        have hc := hc.bool_inv
        cases b with
        | true => exact wp_cond_true hc (ihx i S k Q a w ι ro hp.cond.1 (fun e => by rw [hxy.1] at e; cases e) hnc hg hn h hk)
        | false => exact wp_cond_false hc (ihy _ S k Q a w ι ro hp.cond.2 (fun e => by rw [hxy.2] at e; cases e) hnc hg hn h hk)
      · cases h
  | block id body ih =>
    intro i S k Q a w ι ro hp hs hnc hg hn h hk
    refine wp_block (ih i S _ _ a w ι ro hp.block hs hnc hg hn h fun e S' a' w' ι' ro' h1 h2 h3 h4 => ?_)
    cases e with
    | goto l => exact hk (.goto l) S' a' w' ι' ro' h1 h2 h3 h4
    | normal => exact hk .normal S' a' w' ι' ro' h1 h2 h3 h4
    | ret => exact hk .ret S' a' w' ι' ro' h1 h2 h3 h4
    | exit i =>
      simp only [AExit.toExit, Exit.inBlock, blockK] at h4 ⊢
      cases hb : Nat.beq i id with
      | true =>
        rw [hb] at h4
        rw [if_pos (Nat.eq_of_beq_eq_true hb)]
        exact hk .normal S' a' w' ι' ro' h1 h2 h3 h4
      | false =>
        rw [hb] at h4
        rw [if_neg (fun e => by subst e; simp at hb)]
        exact hk (.exit i) S' a' w' ι' ro' h1 h2 h3 h4
  | loop body ih =>
    intro i S k Q a w ι ro hp _ hnc hg hn hh hk
    obtain ⟨ι', h1, h2, h3⟩ := headAt_sound h i (hG i _ hh).1 hnc hg hn
    exact ((hG i _ hh).2.1 body Q hp.head a w ι' ro h1 h2 h3).wp
  | label l => intro i S k Q a w ι ro _ _ hnc hg hn h hk; exact wp_label (hk .normal S a w ι ro hnc hg hn h)
  | goto l => intro i S k Q a w ι ro _ _ hnc hg hn h hk; exact wp_goto (hk (.goto l) S a w ι ro hnc hg hn h)
  | scope c ih =>
    intro i S k Q a w ι ro hp hs hnc hg hn hh hk
    simp only [evCode] at hh
    split at hh
    · rename_i hns hz
      refine wp_scopeJ (ih i S _ _ a w ι ro (Placed.of_zero hz) (fun e => by rw [hns] at e; cases e) hnc hg hn hh fun e S' a' w' ι' ro' h1 h2 h3 h4 => ?_)
      cases e with
      | normal => exact hk .normal S' a' w' ι' ro' h1 h2 h3 h4
      | exit id => exact hk (.exit id) S' a' w' ι' ro' h1 h2 h3 h4
      | ret => exact hk .ret S' a' w' ι' ro' h1 h2 h3 h4
      | goto l =>
        simp only [scopeK] at h4
        split at h4
        · rename_i rest hf
          obtain ⟨ι2, g1, g2, g3⟩ := headAt_sound h (100 + l) (hG _ _ h4).1 h1 h2 h3
          exact ⟨rest, hf, JumpWp.of ((hG _ _ h4).2.2 l rfl c Q rest (hs rfl).symm hf a' w' ι2 ro' g1 g2 g3)⟩
        · cases h4
    · cases hh
  | _ => intro i S k Q a w ι ro _ _ hnc hg hn h hk; cases h
theorem ctxK_sound {R : Type} (hO : OracleOk E O) (hmix : P.follows .mixedOrders = true) {G : Nat → ASt E → Option R} {rr : R} (hG : ∀ i S, G i S = some rr → w0.k = none ∧ HdOk E w0 ro0 n c0 Q0 i S) :
    ∀ (c : Code) (i j : Nat) (k : AExit → ASt E → Option R) (Q : Exit → Act → World → Prop) (i' : Nat) (b : Code) (k' : AExit → ASt E → Option R), Placed P c0 Q0 i c Q → hasScope c = false → ctxK O h G i c j k = some (i', b, k') →
    (∀ e S' a' w' ι' ro', NoCond S'.tmps → Gam E w0 ro0 S' a' w' ι' ro' → S'.n = n → k e S' = some rr → Q e.toExit a' w') →
    i' = i + j ∧ hasScope b = false ∧ ∃ Q', Placed P c0 Q0 i' (.loop b) Q' ∧ ∀ e S' a' w' ι' ro', NoCond S'.tmps → Gam E w0 ro0 S' a' w' ι' ro' → S'.n = n → k' e S' = some rr → Q' e.toExit a' w' := by
  intro c
  induction c with
  | seq x y ihx ihy =>
    intro i j k Q i' b k' hp hns hc hk
    simp only [ctxK] at hc
    split at hc
    · rename_i hj
      refine ihx i j _ _ i' b k' hp.seq.1 (Bool.or_eq_false_iff.1 hns).1 hc fun e S' a' w' ι' ro' h1 h2 h3 h4 => ?_
      cases e with
      | normal => exact evCode_sound hO hmix hG y _ S' k Q a' w' ι' ro' hp.seq.2 (fun e => by rw [(Bool.or_eq_false_iff.1 hns).2] at e; cases e) h1 h2 h3 h4 hk
      | goto l => exact hk (.goto l) S' a' w' ι' ro' h1 h2 h3 h4
      | exit id => exact hk (.exit id) S' a' w' ι' ro' h1 h2 h3 h4
      | ret => exact hk .ret S' a' w' ι' ro' h1 h2 h3 h4
    · rename_i hj
      have hle : nloops x ≤ j := by
        rcases Nat.lt_or_ge j (nloops x) with h | h
        · rw [blt_true h] at hj; cases hj
        · exact h
      obtain ⟨e1, rest⟩ := ihy _ _ k Q i' b k' hp.seq.2 (Bool.or_eq_false_iff.1 hns).2 hc hk
      exact ⟨by omega, rest⟩
  | cond c x y ihx ihy =>
    intro i j k Q i' b k' hp hns hc hk
    simp only [ctxK] at hc
    split at hc
    · exact ihx i j k Q i' b k' hp.cond.1 (Bool.or_eq_false_iff.1 hns).1 hc hk
    · rename_i hj
      have hle : nloops x ≤ j := by
        rcases Nat.lt_or_ge j (nloops x) with h | h
        · rw [blt_true h] at hj; cases hj
        · exact h
      obtain ⟨e1, rest⟩ := ihy _ _ k Q i' b k' hp.cond.2 (Bool.or_eq_false_iff.1 hns).2 hc hk
      exact ⟨by omega, rest⟩
  | block id body ih =>
    intro i j k Q i' b k' hp hns hc hk
    refine ih i j _ _ i' b k' hp.block hns hc fun e S' a' w' ι' ro' h1 h2 h3 h4 => ?_
    cases e with
    | goto l => exact hk (.goto l) S' a' w' ι' ro' h1 h2 h3 h4
    | normal => exact hk .normal S' a' w' ι' ro' h1 h2 h3 h4
    | ret => exact hk .ret S' a' w' ι' ro' h1 h2 h3 h4
    | exit i =>
      simp only [AExit.toExit, Exit.inBlock, blockK] at h4 ⊢
      cases hb : Nat.beq i id with
      | true =>
        rw [hb] at h4
        rw [if_pos (Nat.eq_of_beq_eq_true hb)]
        exact hk .normal S' a' w' ι' ro' h1 h2 h3 h4
      | false =>
        rw [hb] at h4
        rw [if_neg (fun e => by subst e; simp at hb)]
        exact hk (.exit i) S' a' w' ι' ro' h1 h2 h3 h4
  | loop body ih =>
    intro i j k Q i' b k' hp hns hc hk
    cases j with
    | zero =>
      cases hc
      exact ⟨rfl, hns, Q, hp, hk⟩
    | succ j =>
      obtain ⟨e1, rest⟩ := ih (i + 1) j _ _ i' b k' hp.inner hns hc fun e S' a' w' ι' ro' h1 h2 h3 h4 => (by
        cases e with
        | normal =>
          obtain ⟨ι2, g1, g2, g3⟩ := headAt_sound h i (hG i _ h4).1 h1 h2 h3
          exact (hG i _ h4).2.1 body Q hp.head a' w' ι2 ro' g1 g2 g3
        | exit id => exact hk (.exit id) S' a' w' ι' ro' h1 h2 h3 h4
        | goto l => exact hk (.goto l) S' a' w' ι' ro' h1 h2 h3 h4
        | ret => exact hk .ret S' a' w' ι' ro' h1 h2 h3 h4)
      exact ⟨by omega, rest⟩
  | _ => intro i j k Q i' b k' hp hns hc hk; cases hc
theorem ctxS_sound {R : Type} (hO : OracleOk E O) (hmix : P.follows .mixedOrders = true) {G : Nat → ASt E → Option R} {rr : R} (hG : ∀ i S, G i S = some rr → w0.k = none ∧ HdOk E w0 ro0 n c0 Q0 i S) :
    ∀ (c : Code) (i : Nat) (k : AExit → ASt E → Option R) (Q : Exit → Act → World → Prop) (sc : Code) (k' : AExit → ASt E → Option R), Placed P c0 Q0 i c Q → ctxS O h G i c k = some (sc, k') →
    (∀ e S' a' w' ι' ro', NoCond S'.tmps → Gam E w0 ro0 S' a' w' ι' ro' → S'.n = n → k e S' = some rr → Q e.toExit a' w') →
    ∃ Q', scopeAt P c Q = some (sc, Q') ∧ ∀ e S' a' w' ι' ro', NoCond S'.tmps → Gam E w0 ro0 S' a' w' ι' ro' → S'.n = n → k' e S' = some rr → Q' e.toExit a' w' := by
  intro c
  induction c with
  | scope c ih =>
    intro i k Q sc k' hp hc hk
    cases hc
    exact ⟨Q, rfl, hk⟩
  | seq x y ihx ihy =>
    intro i k Q sc k' hp hc hk
    simp only [ctxS] at hc
    split at hc
    · rename_i hx hy
      simp only [scopeAt, hx]
      refine ihx i _ _ sc k' hp.seq.1 hc fun e S' a' w' ι' ro' h1 h2 h3 h4 => ?_
      cases e with
      | normal => exact evCode_sound hO hmix hG y _ S' k Q a' w' ι' ro' hp.seq.2 (fun e => by rw [hy] at e; cases e) h1 h2 h3 h4 hk
      | exit id => exact hk (.exit id) S' a' w' ι' ro' h1 h2 h3 h4
      | goto l => exact hk (.goto l) S' a' w' ι' ro' h1 h2 h3 h4
      | ret => exact hk .ret S' a' w' ι' ro' h1 h2 h3 h4
    · rename_i hx hy
      simp only [scopeAt, hx]
      exact ihy _ k Q sc k' hp.seq.2 hc hk
    · cases hc
  | block id body ih =>
    intro i k Q sc k' hp hc hk
    refine ih i _ _ sc k' hp.block hc fun e S' a' w' ι' ro' h1 h2 h3 h4 => ?_
    cases e with
    | normal => exact hk .normal S' a' w' ι' ro' h1 h2 h3 h4
    | goto l => exact hk (.goto l) S' a' w' ι' ro' h1 h2 h3 h4
    | ret => exact hk .ret S' a' w' ι' ro' h1 h2 h3 h4
    | exit i =>
      simp only [AExit.toExit, Exit.inBlock, blockK] at h4 ⊢
      cases hb : Nat.beq i id with
      | true =>
        rw [hb] at h4
        rw [if_pos (Nat.eq_of_beq_eq_true hb)]
        exact hk .normal S' a' w' ι' ro' h1 h2 h3 h4
      | false =>
        rw [hb] at h4
        rw [if_neg (fun e => by subst e; simp at hb)]
        exact hk (.exit i) S' a' w' ι' ro' h1 h2 h3 h4
  | _ => intro i k Q sc k' hp hc hk; cases hc
theorem segC_sound {R : Type} (hO : OracleOk E O) (hmix : P.follows .mixedOrders = true) {G : Nat → ASt E → Option R} {rr : R} (hG : ∀ i S, G i S = some rr → w0.k = none ∧ HdOk E w0 ro0 n c0 Q0 i S) {j : Nat} {S : ASt E} {k : AExit → ASt E → Option R}
    (hk : ∀ e S' a' w' ι' ro', NoCond S'.tmps → Gam E w0 ro0 S' a' w' ι' ro' → S'.n = n → k e S' = some rr → Q0 e.toExit a' w') (hs : segC O h G c0 j S k = some rr) : HdOk E w0 ro0 n c0 Q0 j S := by
  unfold segC at hs
  split at hs
  · rename_i hj
    have hj := Nat.le_of_ble_eq_true hj
    split at hs
    · rename_i hn
      have hnl := Nat.le_of_ble_eq_true hn
      refine ⟨fun b Q hc => ?_, fun l hl sc Q rest hsc hf a w ι ro hnc hg hn => ?_⟩
      · rw [contAt_none c0 j Q0 (by omega)] at hc; cases hc
      · unfold segS at hs
        split at hs
        · rename_i sc2 k2 hc
          obtain ⟨Q2, q1, q2⟩ := ctxS_sound hO hmix hG c0 0 k Q0 sc2 k2 Placed.whole hc hk
          rw [hsc] at q1
          cases q1
          subst hl
          rw [Nat.add_sub_cancel_left, hf] at hs
          simp only at hs
          split at hs
          · rename_i hns hz
            refine evCode_sound hO hmix hG rest 0 S _ _ a w ι ro (Placed.of_zero hz) (fun e => by rw [hns] at e; cases e) hnc hg hn hs fun e S' a' w' ι' ro' h1 h2 h3 h4 => ?_
            cases e with
            | normal => exact q2 .normal S' a' w' ι' ro' h1 h2 h3 h4
            | exit id => exact q2 (.exit id) S' a' w' ι' ro' h1 h2 h3 h4
            | ret => exact q2 .ret S' a' w' ι' ro' h1 h2 h3 h4
            | goto l =>
              simp only [scopeK] at h4
              split at h4
              · rename_i rest2 hf2
                obtain ⟨ι2, g1, g2, g3⟩ := headAt_sound h (100 + l) (hG _ _ h4).1 h1 h2 h3
                exact ⟨rest2, hf2, JumpWp.of ((hG _ _ h4).2.2 l rfl sc Q rest2 hsc hf2 a' w' ι2 ro' g1 g2 g3)⟩
              · cases h4
          · cases hs
        · cases hs
    · cases hs
  rename_i hj
  split at hs
  · cases hs
  rename_i hns
  split at hs
  · rename_i i b k' hc
    refine ⟨?_, fun l hl => absurd (Nat.ble_eq_true_of_le (show 100 ≤ j by omega)) (by rw [hj]; decide)⟩
    obtain ⟨e1, hnb, Q', hp, hk'⟩ := ctxK_sound hO hmix hG c0 0 j k Q0 i b k' Placed.whole hns hc hk
    rw [Nat.zero_add] at e1
    subst e1
    intro b2 Q2 hc2 a w ι ro hnc hg hn
    rw [hp.head] at hc2
    cases hc2
    refine LoopWp.round (evCode_sound hO hmix hG b (i + 1) S _ _ a w ι ro hp.inner (fun e => by rw [hnb] at e; cases e) hnc hg hn hs fun e S' a' w' ι' ro' h1 h2 h3 h4 => ?_)
    cases e with
    | normal =>
      obtain ⟨ι2, g1, g2, g3⟩ := headAt_sound h i (hG i _ h4).1 h1 h2 h3
      exact (hG i _ h4).2.1 b Q' hp.head a' w' ι2 ro' g1 g2 g3
    | exit id => exact hk' (.exit id) S' a' w' ι' ro' h1 h2 h3 h4
    | goto l => exact hk' (.goto l) S' a' w' ι' ro' h1 h2 h3 h4
    | ret => exact hk' .ret S' a' w' ι' ro' h1 h2 h3 h4
  · cases hs
theorem argsT_look : ∀ {args : List (TV E)} {i t : Nat} {x : AV E}, look (argsT args i) t = some x → i ≤ t ∧ ∃ y, args[t - i]? = some y ∧ x = expandA y.1 y.2
  | [], _, _, _, h => by cases h
  | ⟨ty, y⟩ :: r, i, t, x, h => by
    simp only [argsT, look] at h
    split at h
    · rename_i hb
      have := Nat.eq_of_beq_eq_true hb
      subst this
      cases h
      exact ⟨Nat.le_refl _, ⟨ty, y⟩, by simp, rfl⟩
    · rename_i hb
      obtain ⟨h1, z, h2, h3⟩ := argsT_look h
      exact ⟨by omega, z, by rw [show t - i = (t - (i + 1)) + 1 from by omega]; simpa using h2, h3⟩
theorem expandA_noCond {t : E.Ty} {x : E.Den t} : isCond (expandA t x) = false := by
  unfold expandA
  split
  · rfl
  · split <;> rfl
theorem argsT_noCond : ∀ (args : List (TV E)) (i : Nat), NoCond (argsT args i)
  | [], _ => fun p h => by cases h
  | ⟨t, x⟩ :: r, i => fun p h => by
    cases h with
    | head => exact expandA_noCond
    | tail _ h => exact argsT_noCond r (i + 1) p h
def resV (tmps : Array Value) : ResultVar → Sem Value
  | .tmp t => pure (tmps.getD t undef)
  | .cell q ty => do loadVar ty (← asAddr (tmps.getD q undef))
theorem valA_rep {S : ASt E} {a : Act} {w : World} {ι : Nat → Option Gh} {ro : Nat → Nat → Prop} (hg : Gam E w0 ro0 S a w ι ro) {r : ResultVar} {x : AV E} (h : valA S r = some x) :
    ∃ v, (resV a.tmps r).run P w = .ok v w ∧ Rep E w ro ι v x := by
  have hasm : AsmOk a [] := fun j b hb => by simp [hasAsm] at hb
  cases r with
  | tmp t =>
    cases h
    exact ⟨_, rfl, getA_rep (E := E) hg.tmps hasm (.tmp t)⟩
  | cell q ty =>
    have hv := getA_rep (E := E) hg.tmps hasm (.tmp q)
    change Rep E w ro ι (a.tmps.getD q undef) (slotA [] (look S.tmps q)) at hv
    generalize hu : a.tmps.getD q undef = u at hv
    obtain ⟨val, hrun, hr⟩ := run_load_done (S := S) hg.objs hv h
    refine ⟨val, ?_, hr⟩
    show (do loadVar ty (← asAddr (a.tmps.getD q undef)) : Sem Value).run P w = _
    rw [hu]
    simp only [Instr.loadAt, Sem.run_bind] at hrun ⊢
    cases u with
    | pointer p =>
      cases p with
      | some ad => simpa [Instr.sureAddr, asAddr] using hrun
      | none => simp [Instr.sureAddr, stuck, Result.andThen] at hrun
    | _ => simp [Instr.sureAddr, stuck, Result.andThen] at hrun
theorem resA_rep {S : ASt E} {a : Act} {w : World} {ι : Nat → Option Gh} {ro : Nat → Nat → Prop} (hg : Gam E w0 ro0 S a w ι ro) : ∀ {rs : List ResultVar} {Ts : List TypeId} {xs : List (TV E)}, resA S rs Ts = some xs →
    ∃ vs : List Value, (rs.mapM (resV a.tmps)).run P w = Result.ok vs w ∧ ArgsRep E w ro vs xs
  | [], [], xs, h => by cases h; exact ⟨[], by simp, trivial⟩
  | r :: rs, T :: Ts, xs, h => by
    unfold resA at h
    split at h
    · rename_i t ht
      split at h
      · rename_i v hv
        split at h
        · rename_i x hx
          split at h
          · rename_i ys hys
            cases h
            obtain ⟨u, hu, hr⟩ := valA_rep hg hv
            obtain ⟨us, hus, hrs⟩ := resA_rep hg hys
            exact ⟨u :: us, by rw [List.mapM_cons]; simp only [Sem.run_bind, hu, Result.andThen_ok, hus, Sem.run_pure], foldA_rep hr hx, hrs⟩
          · cases h
        · cases h
      · cases h
    · cases h
  | [], _ :: _, _, h => by cases h
  | _ :: _, [], _, h => by cases h
theorem below_of_grown {w w' : World} (h : w.grownBy w' none) : Below w.heap.size w w' := ⟨h.os, h.tape, h.output, h.size, fun k hk => h.block k hk (fun e => by cases e)⟩
def EndOk (E : Env P) (fn : Func) (res : List (TV E)) (w : World) (ro : Nat → Nat → Prop) : Exit → Act → World → Prop :=
  bodyPost P fn fun e w' => ∃ v, e = .returned v ∧ Below w.heap.size w w' ∧ RetRep E w' (fun k o => ro k o ∨ (w.heap.size ≤ k ∧ k < w'.heap.size)) v res
theorem endK_sound {fn : Func} {res : List (TV E)} {w : World} {ro : Nat → Nat → Prop} {e : AExit} {S' : ASt E} {a' : Act} {w' : World} {ι' : Nat → Option Gh} {ro' : Nat → Nat → Prop} (hnc' : NoCond S'.tmps) (hg' : Gam E ⟨w, none, none⟩ ro S' a' w' ι' ro') (hk : endK fn e S' = some res) :
    EndOk E fn res w ro e.toExit a' w' := by
  obtain ⟨_, hg'⟩ := freezeS_sound hnc' hg'
  generalize frzRo S'.objs ι' ro' = ro' at hg'
  have fin : resA (freezeS S') fn.results.toList fn.resultTypes.toList = some res → a'.defers = [] ∧ ∃ v, (results fn a'.tmps).run P w' = .ok v w' ∧
      (∃ v', Ending.returned v = .returned v' ∧ Below w.heap.size w w' ∧ RetRep E w' (fun k o => ro k o ∨ (w.heap.size ≤ k ∧ k < w'.heap.size)) v' res) := by
    intro hres
    obtain ⟨vs, hvs, hrep⟩ := resA_rep hg' hres
    have hmono : ArgsRep E w' (fun k o => ro k o ∨ (w.heap.size ≤ k ∧ k < w'.heap.size)) vs res := by
      have hmm : ∀ (vs : List Value) (rs : List (TV E)), ArgsRep E w' ro' vs rs → ArgsRep E w' (fun k o => ro k o ∨ (w.heap.size ≤ k ∧ k < w'.heap.size)) vs rs := by
        intro vs
        induction vs with
        | nil => intro rs h; cases rs <;> exact h
        | cons v vs ih =>
          intro rs h
          cases rs with
          | nil => exact h
          | cons r rs =>
            exact ⟨h.1.mono (fun k o hk => by
              rcases hg'.base.ronew k o hk with h | h
              · exact .inl h
              · rcases h with h | h
                · exact .inr ⟨h, hg'.base.rolt k o hk⟩
                · cases h) (fun _ _ _ => rfl), ih rs h.2⟩
      exact hmm vs res hrep
    have hl := (ArgsRep.at_ vs res hrep).1
    refine ⟨hg'.base.defers, if h : vs.length = 1 then vs[0] else .tuple vs.toArray, ?_, _, rfl, below_of_grown hg'.base.below, ?_⟩
    · show (do let vs ← fn.results.mapM (resV a'.tmps); pure (if h : vs.size = 1 then vs[0] else .tuple vs) : Sem Value).run P w' = _
      rw [Array.mapM_eq_mapM_toList]
      simp only [Sem.run_bind, Sem.run_map, hvs]
      simp [Result.andThen]
    · unfold RetRep
      split
      · rename_i t x
        match vs, hl, hmono with
        | [v], _, hm => exact hm.1
      · rename_i hne
        by_cases h1 : vs.length = 1
        · exfalso
          match res, hl.symm.trans h1, hne with
          | [⟨t, x⟩], _, hne => exact hne t x rfl
        · rw [dif_neg h1]
          exact ⟨vs, rfl, hmono⟩
  cases e with
  | normal => exact fin hk
  | ret => exact fin hk
  | exit id => cases hk
  | goto l => cases hk
def Ev (E : Env P) (fn : Func) (res : List (TV E)) (i : Nat) (S : ASt E) : Prop :=
  ∀ (w0 : World) ro0 n c, fn.body = some c → HdOk E ⟨w0, none, none⟩ ro0 n c (EndOk E fn res w0 ro0) i S
open Classical in
noncomputable def Gr (E : Env P) (fn : Func) (res : List (TV E)) (i : Nat) (S : ASt E) : Option (List (TV E)) := if Ev E fn res i S then some res else none
theorem Gr_of {fn : Func} {res : List (TV E)} {i : Nat} {S : ASt E} (h : Ev E fn res i S) : Gr E fn res i S = some res := if_pos h
theorem Gr_ev {fn : Func} {res r : List (TV E)} {i : Nat} {S : ASt E} (h : Gr E fn res i S = some r) : Ev E fn res i S := by
  unfold Gr at h
  split at h
  · assumption
  · cases h
theorem Ev.step (hO : OracleOk E O) (hmix : P.follows .mixedOrders = true) {fn : Func} {res : List (TV E)} {j : Nat} {S : ASt E} (hs : runL O h (Gr E fn res) fn j S = some res) : Ev E fn res j S := by
  intro w0 ro0 n c hc
  unfold runL at hs
  rw [hc] at hs
  exact segC_sound hO hmix (fun i S hi => ⟨rfl, Gr_ev hi w0 ro0 n c hc⟩) (fun e S' a' w' ι' ro' h1 h2 _ h4 => endK_sound h1 h2 h4) hs
theorem callsOk_of (hO : OracleOk E O) (hmix : P.follows .mixedOrders = true) {f : FuncId} {fn : Func} (hf : P.funcs[f]? = some fn) {args res : List (TV E)} (hr : runE O h (Gr E fn res) fn args = some res) : CallsOk E f args res := by
  unfold runE at hr
  split at hr
  · rename_i c hc
    intro w ro vals hargs hrolt
    obtain ⟨hlen, hat⟩ := ArgsRep.at_ vals args hargs
    refine calls_of_wp hf hc ?_
    have hg : Gam E ⟨w, none, none⟩ ro (startS fn args) { tmps := vals.toArray ++ Array.replicate (fn.ntmps - vals.toArray.size) undef, defers := [] } w (fun _ => none) ro := {
      base := ⟨⟨rfl, rfl, rfl, Nat.le_refl _, fun _ _ _ => rfl⟩, hrolt, fun k o h => .inl h, (fun id gh k h => by cases h), rfl, (fun q h => by cases h)⟩
      size := by simp [startS, hlen]
      tmps := fun t x hl => by
        obtain ⟨_, y, hy, rfl⟩ := argsT_look hl
        rw [Nat.sub_zero] at hy
        have hlt : t < vals.length := by rw [hlen]; exact (List.getElem?_eq_some_iff.1 hy).1
        have hv := List.getElem?_eq_getElem hlt
        refine ⟨vals[t], by simp [Array.getElem?_append, hlt], ?_⟩
        have hr : Rep E w ro (fun _ => none) vals[t] (expandA y.1 y.2) := expandA_rep (hat t _ y hv hy)
        have hc := expandA_noCond (E := E) (t := y.1) (x := y.2)
        generalize expandA y.1 y.2 = z at hr hc
        cases z <;> first | exact hr | cases hc
      objs := fun id o hl => by cases hl
      inj := fun id id' o o' gh gh' k hl => by cases hl
      fresh := fun _ _ => rfl
      ids := fun id o hl => by cases hl }
    exact evCode_sound (n := (startS fn args).n) (Q0 := EndOk E fn res w ro) (c0 := c) hO hmix (fun i S hi => ⟨rfl, Gr_ev hi w ro _ c hc⟩) c 0 (startS fn args) (endK fn) _ _ w _ ro Placed.whole (fun _ => rfl) (argsT_noCond args 0) hg rfl hr
      fun e S' a' w' ι' ro' h1 h2 _ h4 => endK_sound h1 h2 h4
  · cases hr
end
end Go.Proofs.YtgniedpgdjmfpaaGreatDoor.Mir
namespace Go.Proofs.YtgniedpgdjmfpaaGreatDoor.Mir
open Go Go.RowKit
theorem info_of {P : Program} {T a b c : Nat} (h : (P.info? T).map (fun i => (i.size, i.bytes, i.zero.map fun z => z.cells.size)) = some (a, b, some c)) (hc : c = a) :
    ∃ i z, P.info? T = some i ∧ i.size = a ∧ i.bytes = b ∧ i.zero = some z ∧ z.cells.size = a := by
  subst hc
  cases hi : P.info? T with
  | none => rw [hi] at h; cases h
  | some i =>
    rw [hi] at h
    simp only [Option.map_some, Option.some.injEq, Prod.mk.injEq] at h
    obtain ⟨h1, h2, h3⟩ := h
    cases hz : i.zero with
    | none => rw [hz] at h3; cases h3
    | some z =>
      rw [hz] at h3
      exact ⟨i, z, rfl, h1, h2, hz, by simpa using h3⟩
section
variable {Ty : Type} {Den : Ty → Type}
def dInt (k : IntKind) : DVal Den → Option Int
  | .int k' n => if k = k' then some n else none
  | _ => none
def dBl : DVal Den → Option Bool
  | .bool b => some b
  | _ => none
def dStr : DVal Den → Option (List UInt8)
  | .str s => some s
  | _ => none
def dSl (dec : DecidableEq Ty) (t : Ty) : DVal Den → Option (List (Den t))
  | .slice t' l => match dec t' t with
    | .isTrue h => some (h ▸ l)
    | .isFalse _ => none
  | .raw (.slice none 0 0) => some []
  | _ => none
def dFn : DVal Den → Option Nat
  | .raw (.func (.func f) ⟨[]⟩ ⟨[]⟩) => some f
  | _ => none
theorem dFn_le {c : DVal Den} {n : Nat} (h : dFn c = some n) : DLe c (.raw (.func (.func n) #[] #[])) := by
  unfold dFn at h
  split at h
  · cases h; exact .inl rfl
  · cases h
theorem dInt_le {k : IntKind} {c : DVal Den} {n : Int} (h : dInt k c = some n) : DLe c (.int k n) := by
  unfold dInt at h
  split at h
  · split at h
    · rename_i e; subst e; cases h; exact .inl rfl
    · cases h
  · cases h
theorem dBl_le {c : DVal Den} {n : Bool} (h : dBl c = some n) : DLe c (.bool n) := by
  unfold dBl at h
  split at h
  · cases h; exact .inl rfl
  · cases h
theorem dStr_le {c : DVal Den} {n : List UInt8} (h : dStr c = some n) : DLe c (.str n) := by
  unfold dStr at h
  split at h
  · cases h; exact .inl rfl
  · cases h
theorem dSl_le {dec : DecidableEq Ty} {t : Ty} {c : DVal Den} {l : List (Den t)} (h : dSl dec t c = some l) : DLe c (.slice t l) := by
  unfold dSl at h
  split at h
  · split at h
    · rename_i e _; subst e; cases h; exact .inl rfl
    · cases h
  · cases h; exact .inr ⟨rfl, t, rfl⟩
  · cases h
end
section
variable {P : Program} {E : Env P}
abbrev FnW (E : Env P) := List (TV E) → Option (Bool × List (TV E))
abbrev FnR (E : Env P) := List (TV E) → Option (Bool × ((t : E.Ty) × List (E.Den t)))
abbrev FnM (E : Env P) := (t : E.Ty) → List (E.Den t) → List (TV E) → Option (Bool × Bool × List (E.Den t))
def mut0 (a : E.Ty) (back : Bool) (ok : List (E.Den a) → Bool) (F : List (E.Den a) → List (E.Den a)) : FnM E := fun t l rest => match castL t a l, rest with
  | some x, [] => (match castL a t (F x) with
    | some y => some (ok x, back, y)
    | none => none)
  | _, _ => none
theorem mut0_inv {a : E.Ty} {F : List (E.Den a) → List (E.Den a)} {ok : List (E.Den a) → Bool} {bk back : Bool} {t : E.Ty} {l l' : List (E.Den t)} {rest : List (TV E)} (h : mut0 a bk ok F t l rest = some (true, back, l')) :
    ∃ x : List (E.Den a), (⟨t, l⟩ : (t : E.Ty) × List (E.Den t)) = ⟨a, x⟩ ∧ rest = [] ∧ bk = back ∧ ok x = true ∧ (⟨t, l'⟩ : (t : E.Ty) × List (E.Den t)) = ⟨a, F x⟩ := by
  unfold mut0 at h
  split at h
  · rename_i x hx
    unfold castL at hx
    split at hx
    · rename_i e _
      subst e
      cases hx
      split at h
      · rename_i y hy
        unfold castL at hy
        split at hy
        · cases hy
          simp only [Option.some.injEq, Prod.mk.injEq] at h
          obtain ⟨h1, h2, h3⟩ := h
          exact ⟨_, rfl, rfl, h2, h1, by rw [← h3]⟩
        · cases hy
      · cases h
    · cases hx
  · cases h
def orac (l : List (FuncId × FnW E)) (m : List (FuncId × FnR E) := []) (u : List (FuncId × FnM E) := []) (gr : List (FuncId × E.Ty) := []) : Oracle E where
  call := fun f args => match look l f with
    | some F => F args
    | none => none
  isFresh := fun f => match look m f with
    | some _ => true
    | none => false
  fresh := fun f args => match look m f with
    | some F => F args
    | none => none
  isMut := fun f => match look u f with
    | some _ => true
    | none => false
  grow := fun f => look gr f
  rowf := fun f t l xs => match look u f with
    | some F => F t l xs
    | none => none
  inl := .nil
def FreshOk (E : Env P) (f : FuncId) (F : FnR E) : Prop :=
  (∃ fn, P.funcs[f]? = some fn ∧ (fn.name == "runtime.NumGoroutine") = false ∧ fn.body.isNone = false) ∧ ∀ args t l, F args = some (true, ⟨t, l⟩) → CallsFresh E f args t l
def MutOk (E : Env P) (f : FuncId) (F : FnM E) : Prop :=
  (∃ fn, P.funcs[f]? = some fn ∧ (fn.name == "runtime.NumGoroutine") = false ∧ fn.body.isNone = false) ∧ ∀ t l xs back l', F t l xs = some (true, back, l') → CallsMut E f t l xs back l'
def GrowOk (E : Env P) (f : FuncId) (t : E.Ty) : Prop :=
  (∃ fn, P.funcs[f]? = some fn ∧ (fn.name == "runtime.NumGoroutine") = false ∧ fn.body.isNone = false) ∧ CallsGrow E f t
def AllGrow (l : List (FuncId × E.Ty)) : Prop := ∀ p ∈ l, GrowOk E p.1 p.2
theorem AllGrow.nil : AllGrow (E := E) [] := fun p h => by cases h
theorem AllGrow.cons {f : FuncId} {t : E.Ty} {l : List (FuncId × E.Ty)} (h : GrowOk E f t) (hl : AllGrow l) : AllGrow ((f, t) :: l) := fun p hp => by
  cases hp with
  | head => exact h
  | tail _ hp => exact hl p hp
def AllMut (l : List (FuncId × FnM E)) : Prop := ∀ p ∈ l, MutOk E p.1 p.2
def AllOk (l : List (FuncId × FnW E)) : Prop := ∀ p ∈ l, FnOk E p.1 p.2
def AllFresh (l : List (FuncId × FnR E)) : Prop := ∀ p ∈ l, FreshOk E p.1 p.2
theorem orac_ok {l : List (FuncId × FnW E)} {m : List (FuncId × FnR E)} {u : List (FuncId × FnM E)} {gr : List (FuncId × E.Ty)} (h : AllOk l) (hm : AllFresh m) (hu : AllMut u) (hg : AllGrow gr) : OracleOk E (orac l m u gr) := by
  refine ⟨fun f args res hr => ?_, fun f args t x hr => ?_, fun f t x rest back x' hr => ?_, fun f t hr => hg _ (look_mem _ _ _ hr), fun f args objs next k rr h => by cases h⟩
  · simp only [orac] at hr
    split at hr
    · rename_i F hF
      have := h _ (look_mem _ _ _ hF)
      exact ⟨this.1, this.2 args res hr⟩
    · cases hr
  · simp only [orac] at hr
    split at hr
    · rename_i F hF
      have := hm _ (look_mem _ _ _ hF)
      exact ⟨this.1, this.2 args t x hr⟩
    · cases hr
  · simp only [orac] at hr
    split at hr
    · rename_i F hF
      have := hu _ (look_mem _ _ _ hF)
      exact ⟨this.1, this.2 t x rest back x' hr⟩
    · cases hr
theorem AllOk.nil : AllOk (E := E) [] := fun p h => by cases h
theorem AllFresh.nil : AllFresh (E := E) [] := fun p h => by cases h
theorem AllOk.cons {f : FuncId} {F : FnW E} {l : List (FuncId × FnW E)} (h : FnOk E f F) (hl : AllOk l) : AllOk ((f, F) :: l) := fun p hp => by
  cases hp with
  | head => exact h
  | tail _ hp => exact hl p hp
theorem AllMut.nil : AllMut (E := E) [] := fun p h => by cases h
theorem AllMut.cons {f : FuncId} {F : FnM E} {l : List (FuncId × FnM E)} (h : MutOk E f F) (hl : AllMut l) : AllMut ((f, F) :: l) := fun p hp => by
  cases hp with
  | head => exact h
  | tail _ hp => exact hl p hp
theorem AllFresh.cons {f : FuncId} {F : FnR E} {l : List (FuncId × FnR E)} (h : FreshOk E f F) (hl : AllFresh l) : AllFresh ((f, F) :: l) := fun p hp => by
  cases hp with
  | head => exact h
  | tail _ hp => exact hl p hp
def castV (t : E.Ty) (v : TV E) : Option (E.Den t) := castD v.1 t v.2
theorem castV_eq {t : E.Ty} {v : TV E} {x : E.Den t} (h : castV t v = some x) : v = ⟨t, x⟩ := by
  unfold castV castD at h
  cases hd : E.dec v.1 t with
  | isFalse hn => rw [hd] at h; cases h
  | isTrue he =>
    rw [hd] at h
    obtain ⟨t', y⟩ := v
    simp only at he
    subst he
    cases h
    rfl
def fn0 (t : E.Ty) (ok : Bool) (F : E.Den t) : FnW E
  | [] => some (ok, [⟨t, F⟩])
  | _ => none
def fn1 (a t : E.Ty) (ok : E.Den a → Bool) (F : E.Den a → E.Den t) : FnW E
  | [x] => match castV a x with
    | some x => some (ok x, [⟨t, F x⟩])
    | none => none
  | _ => none
def fn2 (a b t : E.Ty) (ok : E.Den a → E.Den b → Bool) (F : E.Den a → E.Den b → E.Den t) : FnW E
  | [x, y] => match castV a x with
    | some x => match castV b y with
      | some y => some (ok x y, [⟨t, F x y⟩])
      | none => none
    | none => none
  | _ => none
def fn22 (a b t u : E.Ty) (ok : E.Den a → E.Den b → Bool) (F : E.Den a → E.Den b → E.Den t) (G : E.Den a → E.Den b → E.Den u) : FnW E
  | [x, y] => match castV a x with
    | some x => match castV b y with
      | some y => some (ok x y, [⟨t, F x y⟩, ⟨u, G x y⟩])
      | none => none
    | none => none
  | _ => none
def fn3 (a b c t : E.Ty) (ok : E.Den a → E.Den b → E.Den c → Bool) (F : E.Den a → E.Den b → E.Den c → E.Den t) : FnW E
  | [x, y, z] => match castV a x with
    | some x => match castV b y with
      | some y => match castV c z with
        | some z => some (ok x y z, [⟨t, F x y z⟩])
        | none => none
      | none => none
    | none => none
  | _ => none
def fn12 (a t u : E.Ty) (ok : E.Den a → Bool) (F : E.Den a → E.Den t) (G : E.Den a → E.Den u) : FnW E
  | [x] => match castV a x with
    | some x => some (ok x, [⟨t, F x⟩, ⟨u, G x⟩])
    | none => none
  | _ => none
end
section
variable {P : Program} {E : Env P} {O : Oracle E} {masks : Hint E} {f : FuncId} {fn : Func}
theorem fnOk_of (hO : OracleOk E O) (hmix : P.follows .mixedOrders = true) (hf : P.funcs[f]? = some fn) (hn : (fn.name == "runtime.NumGoroutine") = false) (hb : fn.body.isNone = false) {F : FnW E}
    (h : ∀ args res, F args = some (true, res) → runE O masks (Gr E fn res) fn args = some res) : FnOk E f F :=
  ⟨⟨fn, hf, hn, hb⟩, fun args res hr => callsOk_of hO hmix hf (h args res hr)⟩
theorem fn0_ok {t : E.Ty} {ok : Bool} {F : E.Den t} (hO : OracleOk E O) (hmix : P.follows .mixedOrders = true) (hf : P.funcs[f]? = some fn) (hn : (fn.name == "runtime.NumGoroutine") = false) (hb : fn.body.isNone = false)
    (h : ok = true → runE O masks (Gr E fn [⟨t, F⟩]) fn [] = some [⟨t, F⟩]) : FnOk E f (fn0 t ok F) := by
  refine fnOk_of (masks := masks) hO hmix hf hn hb fun args res hr => ?_
  unfold fn0 at hr
  split at hr
  · cases hr; exact h rfl
  · cases hr
theorem fn1_ok {a t : E.Ty} {ok : E.Den a → Bool} {F : E.Den a → E.Den t} (hO : OracleOk E O) (hmix : P.follows .mixedOrders = true) (hf : P.funcs[f]? = some fn) (hn : (fn.name == "runtime.NumGoroutine") = false) (hb : fn.body.isNone = false)
    (h : ∀ x, ok x = true → runE O masks (Gr E fn [⟨t, F x⟩]) fn [⟨a, x⟩] = some [⟨t, F x⟩]) : FnOk E f (fn1 a t ok F) := by
  refine fnOk_of (masks := masks) hO hmix hf hn hb fun args res hr => ?_
  unfold fn1 at hr
  split at hr
  · split at hr
    · rename_i x hx
      injection hr with hr
      injection hr with h1 h2
      subst h2
      rw [castV_eq hx]
      exact h _ h1
    · cases hr
  · cases hr
theorem fn2_ok {a b t : E.Ty} {ok : E.Den a → E.Den b → Bool} {F : E.Den a → E.Den b → E.Den t} (hO : OracleOk E O) (hmix : P.follows .mixedOrders = true) (hf : P.funcs[f]? = some fn) (hn : (fn.name == "runtime.NumGoroutine") = false) (hb : fn.body.isNone = false)
    (h : ∀ x y, ok x y = true → runE O masks (Gr E fn [⟨t, F x y⟩]) fn [⟨a, x⟩, ⟨b, y⟩] = some [⟨t, F x y⟩]) : FnOk E f (fn2 a b t ok F) := by
  refine fnOk_of (masks := masks) hO hmix hf hn hb fun args res hr => ?_
  unfold fn2 at hr
  split at hr
  · split at hr
    · rename_i x hx
      split at hr
      · rename_i y hy
        injection hr with hr
        injection hr with h1 h2
        subst h2
        rw [castV_eq hx, castV_eq hy]
        exact h _ _ h1
      · cases hr
    · cases hr
  · cases hr
theorem fn22_ok {a b t u : E.Ty} {ok : E.Den a → E.Den b → Bool} {F : E.Den a → E.Den b → E.Den t} {G' : E.Den a → E.Den b → E.Den u} (hO : OracleOk E O) (hmix : P.follows .mixedOrders = true) (hf : P.funcs[f]? = some fn) (hn : (fn.name == "runtime.NumGoroutine") = false) (hb : fn.body.isNone = false)
    (h : ∀ x y, ok x y = true → runE O masks (Gr E fn [⟨t, F x y⟩, ⟨u, G' x y⟩]) fn [⟨a, x⟩, ⟨b, y⟩] = some [⟨t, F x y⟩, ⟨u, G' x y⟩]) : FnOk E f (fn22 a b t u ok F G') := by
  refine fnOk_of (masks := masks) hO hmix hf hn hb fun args res hr => ?_
  unfold fn22 at hr
  split at hr
  · split at hr
    · rename_i x hx
      split at hr
      · rename_i y hy
        injection hr with hr
        injection hr with h1 h2
        subst h2
        rw [castV_eq hx, castV_eq hy]
        exact h _ _ h1
      · cases hr
    · cases hr
  · cases hr
theorem fn1_bot {a t : E.Ty} {ok : E.Den a → Bool} {F : E.Den a → E.Den t} (ex : ∃ fn, P.funcs[f]? = some fn ∧ (fn.name == "runtime.NumGoroutine") = false ∧ fn.body.isNone = false) (h : ∀ x, ok x = false) : FnOk E f (fn1 a t ok F) :=
  ⟨ex, fun args r hr => by
    unfold fn1 at hr
    split at hr
    · split at hr
      · rw [h] at hr
        cases hr
      · cases hr
    · cases hr⟩
theorem fn2_bot {a b t : E.Ty} {ok : E.Den a → E.Den b → Bool} {F : E.Den a → E.Den b → E.Den t} (ex : ∃ fn, P.funcs[f]? = some fn ∧ (fn.name == "runtime.NumGoroutine") = false ∧ fn.body.isNone = false) (h : ∀ x y, ok x y = false) : FnOk E f (fn2 a b t ok F) :=
  ⟨ex, fun args r hr => by
    unfold fn2 at hr
    split at hr
    · split at hr
      · split at hr
        · rw [h] at hr
          cases hr
        · cases hr
      · cases hr
    · cases hr⟩
theorem fn3_bot {a b c t : E.Ty} {ok : E.Den a → E.Den b → E.Den c → Bool} {F : E.Den a → E.Den b → E.Den c → E.Den t} (ex : ∃ fn, P.funcs[f]? = some fn ∧ (fn.name == "runtime.NumGoroutine") = false ∧ fn.body.isNone = false) (h : ∀ x y z, ok x y z = false) : FnOk E f (fn3 a b c t ok F) :=
  ⟨ex, fun args r hr => by
    unfold fn3 at hr
    split at hr
    · split at hr
      · split at hr
        · split at hr
          · rw [h] at hr
            cases hr
          · cases hr
        · cases hr
      · cases hr
    · cases hr⟩
theorem fn3_ok {a b c t : E.Ty} {ok : E.Den a → E.Den b → E.Den c → Bool} {F : E.Den a → E.Den b → E.Den c → E.Den t} (hO : OracleOk E O) (hmix : P.follows .mixedOrders = true) (hf : P.funcs[f]? = some fn) (hn : (fn.name == "runtime.NumGoroutine") = false) (hb : fn.body.isNone = false)
    (h : ∀ x y z, ok x y z = true → runE O masks (Gr E fn [⟨t, F x y z⟩]) fn [⟨a, x⟩, ⟨b, y⟩, ⟨c, z⟩] = some [⟨t, F x y z⟩]) : FnOk E f (fn3 a b c t ok F) := by
  refine fnOk_of (masks := masks) hO hmix hf hn hb fun args res hr => ?_
  unfold fn3 at hr
  split at hr
  · split at hr
    · rename_i x hx
      split at hr
      · rename_i y hy
        split at hr
        · rename_i z hz
          injection hr with hr
          injection hr with h1 h2
          subst h2
          rw [castV_eq hx, castV_eq hy, castV_eq hz]
          exact h _ _ _ h1
        · cases hr
      · cases hr
    · cases hr
  · cases hr
theorem fn12_ok {a t u : E.Ty} {ok : E.Den a → Bool} {F : E.Den a → E.Den t} {G : E.Den a → E.Den u} (hO : OracleOk E O) (hmix : P.follows .mixedOrders = true) (hf : P.funcs[f]? = some fn) (hn : (fn.name == "runtime.NumGoroutine") = false) (hb : fn.body.isNone = false)
    (h : ∀ x, ok x = true → runE O masks (Gr E fn [⟨t, F x⟩, ⟨u, G x⟩]) fn [⟨a, x⟩] = some [⟨t, F x⟩, ⟨u, G x⟩]) : FnOk E f (fn12 a t u ok F G) := by
  refine fnOk_of (masks := masks) hO hmix hf hn hb fun args res hr => ?_
  unfold fn12 at hr
  split at hr
  · split at hr
    · rename_i x hx
      injection hr with hr
      injection hr with h1 h2
      subst h2
      rw [castV_eq hx]
      exact h _ h1
    · cases hr
  · cases hr
end
end Go.Proofs.YtgniedpgdjmfpaaGreatDoor.Mir
namespace Go.Proofs.YtgniedpgdjmfpaaGreatDoor.Mir
open Go Go.RowKit
def cloneCode (T b : TypeId) : Code :=
  ((Go.Code.region 0 #[{ dst := some 2, op := Go.Op.assign (Go.Operand.const (Go.Value.slice none 0 0)), type := T, pos := "slices.go:355", after := #[], guard := none }] false).seq
    (((Go.Code.region 1
      #[{ dst := some 3, op := Go.Op.move (Go.Operand.tmp 0), type := T, pos := "slices.go:357", after := #[], guard := none },
        { dst := some 4, op := Go.Op.binOp Go.BinOp.eql T (Go.Operand.tmp 3) (Go.Operand.const (Go.Value.slice none 0 0)) T, type := b, pos := "slices.go:357", after := #[{ on := 0, ground := Go.Ground.data }], guard := none }] false).seq
      (Go.Code.cond (Go.Operand.tmp 4)
        ((Go.Code.region 2 #[{ dst := some 2, op := Go.Op.assign (Go.Operand.const (Go.Value.slice none 0 0)), type := T, pos := "slices.go:358", after := #[], guard := none }] false).seq Go.Code.ret)
        Go.Code.skip)).seq
      ((Go.Code.region 3
        #[{ dst := some 5, op := Go.Op.buildSlice T 0 #[], type := T, pos := "slices.go:362", after := #[], guard := none },
          { dst := some 6, op := Go.Op.move (Go.Operand.tmp 0), type := T, pos := "slices.go:362", after := #[], guard := none },
          { dst := some 7, op := Go.Op.call { callee := Go.Callee.builtin Go.Builtin.append, args := #[Go.Operand.tmp 5, Go.Operand.tmp 6], argTypes := #[T, T] }, type := T, pos := "slices.go:362", after := #[{ on := 0, ground := Go.Ground.data }, { on := 1, ground := Go.Ground.data }], guard := none },
          { dst := some 2, op := Go.Op.assign (Go.Operand.tmp 7), type := T, pos := "slices.go:362",
            after := #[{ on := 2, ground := Go.Ground.data }, { on := 2, ground := Go.Ground.chain }, { on := 0, ground := Go.Ground.phase }, { on := 1, ground := Go.Ground.phase }, { on := 2, ground := Go.Ground.phase }], guard := none }] false).seq Go.Code.ret)))
section
variable {P : Program} {E : Env P}
def cloneF (e : TypeId) : FnR E
  | [v] => bif E.agg v.1 then none else (match E.cells v.1 v.2 with
    | [.slice t l] => bif Nat.beq (E.tid t) e then some (decide (l.length * E.bytes t ≤ maxBytes), ⟨t, l⟩) else none
    | _ => none)
  | _ => none
theorem cell_lt {w : World} {a : Addr} {u : Value} (h : w.cell? a = some u) : a.block < w.heap.size := by
  rcases Nat.lt_or_ge a.block w.heap.size with hl | hl
  · exact hl
  · unfold World.cell? at h
    rw [Array.getElem?_eq_none hl] at h
    cases h
theorem wpList_val {ops : Array Oper} {rest : List Oper} {o : Oper} {a : Act} {w w' : World} {v : Value} {Q : Exit → Act → World → Prop} (hg : o.guard = none) (hr : (execOp a.eval o).run P w = .ok (.value v) w') (h : wpList P ops Q rest (a.put o.dst v) w') : wpList P ops Q (o :: rest) a w := by
  refine wpList_plain hg fun K hK => ?_
  unfold Oper.wp
  rw [hr]
  exact hK _ _ h
theorem clone_fresh {T b e : TypeId} {f : FuncId} {fn : Func} (hT : P.underlying T = some (.slice e)) (hf : P.funcs[f]? = some fn) (hn : (fn.name == "runtime.NumGoroutine") = false) (hb : fn.body = some (cloneCode T b)) (hres : fn.results = #[.tmp 2]) (hnt : fn.ntmps = 8) :
    FreshOk E f (cloneF e) := by
  refine ⟨⟨fn, hf, hn, by rw [hb]; rfl⟩, fun args t l hF => ?_⟩
  unfold cloneF at hF
  split at hF
  · rename_i v
    obtain ⟨s, x⟩ := v
    cases hag : E.agg s with
    | true => simp only [hag, cond_true] at hF; cases hF
    | false =>
      simp only [hag, cond_false] at hF
      split at hF
      · rename_i t' l' hcells
        cases hbe : Nat.beq (E.tid t') e with
        | false => rw [hbe] at hF; cases hF
        | true =>
          rw [hbe] at hF
          have hbe := Nat.eq_of_beq_eq_true hbe
          subst hbe
          simp only [cond_true] at hF
          injection hF with hF
          injection hF with hok hF
          cases hF
          have hok : l.length * E.bytes t ≤ maxBytes := of_decide_eq_true hok
          intro w ro vals hargs hrolt
          match vals, hargs with
          | [v], hargs =>
          have hd : DRep E w ro v (.slice t l) := by
            rcases hargs.1 with ⟨ha, _⟩ | ⟨_, c, hc, hd⟩
            · rw [hag] at ha; cases ha
            · rw [hcells] at hc; cases hc; exact hd
          obtain ⟨ad, cap, news, rfl, hnl, had, hnc, hn1, hnd⟩ := hd.row
          have huE := fun (n c : Nat) => Lib.run_eql_slice_nil (P := P) w T (E.tid t) ad l.length cap n c hT
          have fin : ∀ (a : Act) (w' : World) (gh : Gh) (xs : List Value), a.tmps[2]? = some gh.v → a.defers = [] → Below w.heap.size w w' → gh.n = l.length → gh.e = E.tid t → gh.sz = E.size t → OwnT w' gh xs → RowD E w' ro t xs l → (∀ g, gh.blk = some g → w.heap.size ≤ g) →
              bodyPost P fn (fun e w' => ∃ (gh : Gh) (xs : List Value), e = .returned gh.v ∧ Below w.heap.size w w' ∧ gh.n = l.length ∧ gh.e = E.tid t ∧ gh.sz = E.size t ∧ OwnT w' gh xs ∧ RowD E w' ro t xs l ∧ ∀ g, gh.blk = some g → w.heap.size ≤ g) .ret a w' := by
            intro a w' gh xs h1 h2 h3 h4 h5 h6 h7 h8 h9
            refine ⟨h2, gh.v, ?_, gh, xs, rfl, h3, h4, h5, h6, h7, h8, h9⟩
            simp [results, hres, h1]
          refine calls_of_wp hf hb ?_
          rw [hnt]
          unfold cloneCode
          refine wp_seq (wp_region_list (wpList_val rfl (v := .slice none 0 0) (w' := w) (by simp [execOp, Act.eval]) (wpList_nil ?_)))
          refine wp_seq (wp_seq (wp_region_list (wpList_val rfl (w' := w) (v := .slice ad l.length cap) (by simp [execOp, Act.eval, Act.put]) (wpList_val rfl (w' := w) (v := .bool ad.isNone) (by simp [execOp, Act.eval, Act.put, eqGuard, huE]) (wpList_nil ?_)))))
          cases ad with
          | none =>
            have hl0 := had rfl
            obtain rfl := List.eq_nil_of_length_eq_zero hl0
            refine wp_cond_true (by simp [Act.eval, Act.put]) (wp_seq (wp_region_list (wpList_val rfl (w' := w) (v := .slice none 0 0) (by simp [execOp, Act.eval]) (wpList_nil (wp_ret ?_)))))
            exact fin _ w ⟨.slice none 0 0, 0, E.tid t, E.size t, none⟩ [] (by simp [Act.put]) rfl (Below.refl _ _) rfl rfl rfl (.inl ⟨World.ownsRow_nil w 0 _ _, rfl⟩) (fun i x j c hi => by simp at hi) (fun g hg => by cases hg)
          | some A =>
            refine wp_cond_false (by simp [Act.eval, Act.put]) (wp_skip ?_)
            obtain ⟨i, z, hi, his, hib, hz, hzs⟩ := E.info_ok t
            have hbp := E.bytes_pos t
            let w1 := w.alloc (.cells #[] (E.tid t))
            have hown1 : w1.ownsRow 0 (E.tid t) i.size (.slice (some ⟨w.heap.size, 0, none⟩) 0 0) 0 [] := World.ownsRow_made w #[] 0 (Nat.zero_le _) (Nat.zero_le _) (by simp)
            obtain ⟨v', w', b', hrun, hown', hgrow, hat, _⟩ := run_append_gen (P := P) (w := w1) T T T (E.tid t) i z hT hi hz (by rw [hzs, his]) (.slice (some ⟨w.heap.size, 0, none⟩) 0 0) 0 [] (some w.heap.size) (.inl ⟨hown1, rfl⟩) (.slice (some A) l.length cap) l.length news
              (Src.ofSlice _ hT A _ cap news (by rw [his]; exact hnl) (fun j u hu => by
                have := hnc A rfl j u hu
                exact (World.cell?_alloc_lt w _ _ (cell_lt this)).trans this) hn1) (by
                have : l.length ≤ l.length * E.bytes t := Nat.le_mul_of_pos_right _ hbp
                unfold maxBytes at hok; unfold maxLen; omega) (by rw [hib, Nat.zero_add]; exact hok)
            refine wp_seq (wp_region_list (wpList_val rfl (w' := w1) (v := .slice (some ⟨w.heap.size, 0, none⟩) 0 0) (by simp [execOp, Instr.buildSlice, run_underlying hT, run_size_tid, Instr.fill, newRow, w1, Array.range_zero']) (wpList_val rfl (w' := w1) (v := .slice (some A) l.length cap) (by simp [execOp, Act.eval, Act.put])
              (wpList_val rfl (w' := w') (v := v') (by simp [execOp, Act.eval, Act.put, resolve, invoke, builtin, hrun]) (wpList_val rfl (w' := w') (v := v') (by simp [execOp, Act.eval, Act.put]) (wpList_nil (wp_ret ?_)))))))
            have hbel : Below w.heap.size w w' := (Below.alloc (Below.refl _ _) (Nat.le_refl _) _).trans ⟨hgrow.os, hgrow.tape, hgrow.output, hgrow.size, fun k hk => hgrow.block k (by simp [w1]; omega) (fun e => by cases e; omega)⟩
            rw [his] at hown'
            refine fin _ w' ⟨v', l.length, E.tid t, E.size t, b'⟩ news (by simp [Act.put]) rfl hbel rfl rfl rfl ?_ ?_ ?_
            · simpa [OwnT] using hown'
            · intro i0 x0 j c hx hc
              obtain ⟨u, hu, hdr⟩ := hnd i0 x0 j c hx hc
              exact ⟨u, hu, hdr.mono (fun _ _ h => h) (fun k o h => hbel.cell (p := ⟨k, o, none⟩) (hrolt k o h))⟩
            · intro g hg
              rcases hat with e | e
              · have : b' = some g := hg
                rw [e] at this; cases this; exact Nat.le_refl _
              · have : b' = some g := hg
                rw [e] at this; cases this; simp [w1]
      · cases hF
  · cases hF
end
end Go.Proofs.YtgniedpgdjmfpaaGreatDoor.Mir
namespace Go.Proofs.YtgniedpgdjmfpaaGreatDoor.Mir
open Go Go.RowKit
section
variable {P : Program} {E : Env P}
abbrev TL (E : Env P) := (t : E.Ty) × List (E.Den t)
def rowA (S : ASt E) : AV E → Option (TL E)
  | .row _ _ id => match look S.objs id with
    | some (.row t l) => some ⟨t, l⟩
    | _ => none
  | _ => none
def endM (fn : Func) (e : AExit) (S : ASt E) : Option (TL E) := match e with
  | .exit _ => none
  | .goto _ => none
  | _ => match fn.results.toList with
    | [r] => (match valA S r with
      | some v => rowA S v
      | none => none)
    | _ => none
def runLM (O : Oracle E) (h : Hint E) (G : Nat → ASt E → Option (TL E)) (fn : Func) (j : Nat) (S : ASt E) : Option (TL E) := match fn.body with
  | some c => segC O h G c j S (endM fn)
  | none => none
def EndMP (E : Env P) (res : TL E) (w : World) (gh : Gh) (ro : Nat → Nat → Prop) (e : Ending) (w' : World) : Prop := ∃ (gh' : Gh) (xs' : List Value), e = .returned gh'.v ∧ w.grownBy w' gh.blk ∧ gh'.n = res.2.length ∧ gh'.e = E.tid res.1 ∧ gh'.sz = E.size res.1 ∧ OwnT w' gh' xs' ∧
    RowD E w' (fun k o => ro k o ∨ (gh'.blk ≠ some k ∧ (gh.blk = some k ∨ w.heap.size ≤ k ∧ k < w'.heap.size))) res.1 xs' res.2 ∧ (∀ g, gh'.blk = some g → gh.blk = some g ∨ w.heap.size ≤ g)
def EndMOk (E : Env P) (fn : Func) (res : TL E) (w : World) (gh : Gh) (ro : Nat → Nat → Prop) : Exit → Act → World → Prop := bodyPost P fn (EndMP E res w gh ro)
theorem endM_sound {fn : Func} {res : TL E} {w : World} {gh : Gh} {ro : Nat → Nat → Prop} {e : AExit} {S' : ASt E} {a' : Act} {w' : World} {ι' : Nat → Option Gh} {ro' : Nat → Nat → Prop} (hg' : Gam E ⟨w, gh.blk, none⟩ ro S' a' w' ι' ro') (hk : endM fn e S' = some res) :
    EndMOk E fn res w gh ro e.toExit a' w' := by
  have fin : ∀ r, fn.results.toList = [r] → (match valA S' r with | some v => rowA S' v | none => none) = some res → a'.defers = [] ∧ ∃ v, (results fn a'.tmps).run P w' = .ok v w' ∧
      EndMP E res w gh ro (.returned v) w' := by
    intro r hr hres
    cases hv : valA S' r with
    | none => rw [hv] at hres; cases hres
    | some v =>
      rw [hv] at hres
      simp only at hres
      obtain ⟨u, hrun, hrep⟩ := valA_rep hg' hv
      unfold rowA at hres
      split at hres
      · rename_i t0 n0 id
        split at hres
        · rename_i t l hob
          cases hres
          cases hrep with
          | row gh' _ _ ad cap hi h2 h3 h4 h5 =>
            obtain ⟨gh2, xs, hi2, hn, hge, hgs, hown, hrow, hnro⟩ := hg'.objs id _ hob
            rw [hi] at hi2
            cases hi2
            refine ⟨hg'.base.defers, gh'.v, ?_, gh', xs, rfl, hg'.base.below, hn, hge, hgs, hown, hrow.mono (fun k o hk => ?_) (fun _ _ _ => rfl), fun g hg => ?_⟩
            · show (do let vs ← fn.results.mapM (resV a'.tmps); pure (if h : vs.size = 1 then vs[0] else .tuple vs) : Sem Value).run P w' = _
              rw [Array.mapM_eq_mapM_toList, hr]
              simp only [Sem.run_bind, Sem.run_map, List.mapM_cons, List.mapM_nil, hrun, Result.andThen_ok, Sem.run_pure]
              simp [Result.andThen]
            · have hne : gh'.blk ≠ some k := fun e => hnro k e o hk
              rcases hg'.base.ronew k o hk with h | h | h
              · exact .inl h
              · exact .inr ⟨hne, .inr ⟨h, hg'.base.rolt k o hk⟩⟩
              · exact .inr ⟨hne, .inl h⟩
            · rcases (hg'.base.ilt id gh' g hi hg).1 with h | h
              · exact .inr h
              · exact .inl h
        · cases hres
      · cases hres
  cases e with
  | normal =>
    unfold endM at hk
    split at hk
    · rename_i h; cases h
    · rename_i h; cases h
    · split at hk
      · rename_i r hr; exact fin r hr hk
      · cases hk
  | ret =>
    unfold endM at hk
    split at hk
    · rename_i h; cases h
    · rename_i h; cases h
    · split at hk
      · rename_i r hr; exact fin r hr hk
      · cases hk
  | exit id => cases hk
  | goto l => cases hk
def EvM (E : Env P) (fn : Func) (res : TL E) (i : Nat) (S : ASt E) : Prop :=
  ∀ (w0 : World) (gh : Gh) ro0 n c, fn.body = some c → HdOk E ⟨w0, gh.blk, none⟩ ro0 n c (EndMOk E fn res w0 gh ro0) i S
open Classical in
noncomputable def GrM (E : Env P) (fn : Func) (res : TL E) (i : Nat) (S : ASt E) : Option (TL E) := if EvM E fn res i S then some res else none
theorem GrM_ev {fn : Func} {res r : TL E} {i : Nat} {S : ASt E} (h : GrM E fn res i S = some r) : EvM E fn r i S := by
  unfold GrM at h
  split at h
  · cases h; assumption
  · cases h
variable {O : Oracle E} {h : Hint E}
theorem EvM.step (hO : OracleOk E O) (hmix : P.follows .mixedOrders = true) {fn : Func} {res : TL E} {j : Nat} {S : ASt E} (hs : runLM O h (GrM E fn res) fn j S = some res) : EvM E fn res j S := by
  intro w0 gh ro0 n c hc
  unfold runLM at hs
  rw [hc] at hs
  exact segC_sound hO hmix (fun i S hi => ⟨rfl, GrM_ev hi w0 gh ro0 n c hc⟩) (fun e S' a' w' ι' ro' _ h2 _ h4 => endM_sound h2 h4) hs
variable {f : FuncId} {fn : Func}
end
end Go.Proofs.YtgniedpgdjmfpaaGreatDoor.Mir
namespace Go.Proofs
open Go.Shelf
def Tryz.lays156_ren : Go.Shelf.Ren := ⟨fun | 156 => 168 | 165 => 190 | 166 => 191 | 169 => 192 | 240 => 208 | 241 => 209 | 276 => 217 | 277 => 218 | n => n, fun | 31 => 22 | 9 => 9 | 3 => 3 | 4 => 4 | 0 => 0 | 20 => 20 | 72 => 154 | 76 => 158 | 70 => 152 | 37 => 108 | 75 => 157 | 127 => 174 | 164 => 185 | 5 => 5 | 80 => 160 | n => n, fun | n => n⟩
theorem Tryz.lays156 : Go.Proofs.Lays.n156 Tryz.prog Tryz.lays156_ren := {
  mixed := by kernel_rfl
  f156 := Tryz.func168.trans (congrArg some (by kernel_rfl))
  f165 := Tryz.func190.trans (congrArg some (by kernel_rfl))
  f166 := Tryz.func191.trans (congrArg some (by kernel_rfl))
  f169 := Tryz.func192.trans (congrArg some (by kernel_rfl))
  f240 := Tryz.func208.trans (congrArg some (by kernel_rfl))
  f241 := Tryz.func209.trans (congrArg some (by kernel_rfl))
  f276 := Tryz.func217.trans (congrArg some (by kernel_rfl))
  f277 := Tryz.func218.trans (congrArg some (by kernel_rfl))
  t0 := Tryz.underlying0
  a0 := Tryz.isAgg0
  z0 := Tryz.sizeOf0
  v0 := Tryz.zeroValue0
  t3 := Tryz.underlying3
  a3 := Tryz.isAgg3
  z3 := Tryz.sizeOf3
  v3 := Tryz.zeroValue3
  t4 := Tryz.underlying4
  a4 := Tryz.isAgg4
  z4 := Tryz.sizeOf4
  v4 := Tryz.zeroValue4
  t9 := Tryz.underlying9
  a9 := Tryz.isAgg9
  z9 := Tryz.sizeOf9
  v9 := Tryz.zeroValue9
  t20 := Tryz.underlying20
  a20 := Tryz.isAgg20
  z20 := Tryz.sizeOf20
  v20 := Tryz.zeroValue20
  t31 := Tryz.underlying22
  a31 := Tryz.isAgg22
  z31 := Tryz.sizeOf22
  v31 := Tryz.zeroValue22
  t37 := Tryz.underlying108
  a37 := Tryz.isAgg108
  z37 := Tryz.sizeOf108
  v37 := Tryz.zeroValue108
  t70 := Tryz.underlying152
  a70 := Tryz.isAgg152
  z70 := Tryz.sizeOf152
  v70 := Tryz.zeroValue152
  t72 := Tryz.underlying154
  a72 := Tryz.isAgg154
  z72 := Tryz.sizeOf154
  v72 := Tryz.zeroValue154
  t75 := Tryz.underlying157
  a75 := Tryz.isAgg157
  z75 := Tryz.sizeOf157
  v75 := Tryz.zeroValue157
  t76 := Tryz.underlying158
  a76 := Tryz.isAgg158
  z76 := Tryz.sizeOf158
  v76 := Tryz.zeroValue158
  t127 := Tryz.underlying174
  a127 := Tryz.isAgg174
  z127 := Tryz.sizeOf174
  v127 := Tryz.zeroValue174
  t164 := Tryz.underlying185
  a164 := Tryz.isAgg185
  z164 := Tryz.sizeOf185
  v164 := Tryz.zeroValue185 }
theorem Tryz.Builder_Extra_156 : Builder.Extra Tryz.prog Tryz.lays156_ren := {
  sizeBuilder := by kernel_rfl
  liesBuilder := by kernel_rfl
  t5 := Tryz.underlying5
  a5 := Tryz.isAgg5
  z5 := Tryz.sizeOf5
  v5 := Tryz.zeroValue5
  infoByte := by kernel_rfl
  cellsByte := by kernel_rfl
  sizeByte := by kernel_rfl
  neB5 := by decide }
open Go.RowKit in
theorem Tryz.strings_Join_none (a : Option Addr) (c : Nat) (sep : ByteArray) (w : World) :
    Calls Tryz.prog 168 #[.slice a 0 c, .string sep] w fun e w' => e = .returned (.string ⟨#[]⟩) ∧ w' = w := Any.strings_Join_none Tryz.lays156 Tryz.Builder_Extra_156 a c sep w
open Go.RowKit in
theorem Tryz.strings_Join (bk o c : Nat) (xs : List ByteArray) (sep : ByteArray) (w : World) (hcells : ∀ (j : Nat) x, xs[j]? = some x → w.cell? ⟨bk, o + j, none⟩ = some (.string x)) (hbk : bk < w.heap.size) (hN : xs.length ≤ 140737488355328) (hcap : xs.length ≤ c) (hlen : (Lib.join (xs.map (·.data.toList)) sep.data.toList).length ≤ 140737488355328) :
    Calls Tryz.prog 168 #[.slice (some ⟨bk, o, none⟩) xs.length c, .string sep] w fun e w' => e = .returned (.string ⟨(Lib.join (xs.map (·.data.toList)) sep.data.toList).toArray⟩) ∧ Below w.heap.size w w' := Any.strings_Join Tryz.lays156 Tryz.Builder_Extra_156 bk o c xs sep w hcells hbk hN hcap hlen
def Tryz.lays137_ren : Go.Shelf.Ren := ⟨fun | 137 => 120 | 217 => 160 | 266 => 187 | n => n, fun | 9 => 9 | 5 => 5 | 3 => 3 | n => n, fun | n => n⟩
theorem Tryz.lays137 : Go.Proofs.Lays.n137 Tryz.prog Tryz.lays137_ren := {
  mixed := by kernel_rfl
  f137 := Tryz.func120.trans (congrArg some (by kernel_rfl))
  f217 := Tryz.func160.trans (congrArg some (by kernel_rfl))
  f266 := Tryz.func187.trans (congrArg some (by kernel_rfl))
  t3 := Tryz.underlying3
  a3 := Tryz.isAgg3
  z3 := Tryz.sizeOf3
  v3 := Tryz.zeroValue3
  t5 := Tryz.underlying5
  a5 := Tryz.isAgg5
  z5 := Tryz.sizeOf5
  v5 := Tryz.zeroValue5
  t9 := Tryz.underlying9
  a9 := Tryz.isAgg9
  z9 := Tryz.sizeOf9
  v9 := Tryz.zeroValue9 }
open Go.RowKit in
theorem Tryz.strings_IndexByte (s : ByteArray) (c : Int) (w : World) :
    Calls Tryz.prog 120 #[.string s, .int .u8 c] w fun e w' => e = .returned (.int .i64 (Lib.indexByte s.data.toList c.toNat.toUInt8)) ∧ w' = w := Any.strings_IndexByte Tryz.lays137 s c w
def Tryz.lays219_ren : Go.Shelf.Ren := ⟨fun | 219 => 152 | 217 => 160 | 225 => 178 | 224 => 179 | 267 => 180 | 266 => 187 | 314 => 194 | n => n, fun | 9 => 9 | 3 => 3 | 4 => 4 | 5 => 5 | 46 => 131 | 146 => 162 | 51 => 161 | n => n, fun | 1 => 0 | n => n⟩
theorem Tryz.lays219 : Go.Proofs.Lays.n219 Tryz.prog Tryz.lays219_ren := {
  mixed := by kernel_rfl
  f217 := Tryz.func160.trans (congrArg some (by kernel_rfl))
  f219 := Tryz.func152.trans (congrArg some (by kernel_rfl))
  f224 := Tryz.func179.trans (congrArg some (by kernel_rfl))
  f225 := Tryz.func178.trans (congrArg some (by kernel_rfl))
  f266 := Tryz.func187.trans (congrArg some (by kernel_rfl))
  f267 := Tryz.func180.trans (congrArg some (by kernel_rfl))
  f314 := Tryz.func194.trans (congrArg some (by kernel_rfl))
  t3 := Tryz.underlying3
  a3 := Tryz.isAgg3
  z3 := Tryz.sizeOf3
  v3 := Tryz.zeroValue3
  t4 := Tryz.underlying4
  a4 := Tryz.isAgg4
  z4 := Tryz.sizeOf4
  v4 := Tryz.zeroValue4
  t5 := Tryz.underlying5
  a5 := Tryz.isAgg5
  z5 := Tryz.sizeOf5
  v5 := Tryz.zeroValue5
  t9 := Tryz.underlying9
  a9 := Tryz.isAgg9
  z9 := Tryz.sizeOf9
  v9 := Tryz.zeroValue9
  t46 := Tryz.underlying131
  a46 := Tryz.isAgg131
  z46 := Tryz.sizeOf131
  v46 := Tryz.zeroValue131
  t51 := Tryz.underlying161
  a51 := Tryz.isAgg161
  z51 := Tryz.sizeOf161
  v51 := Tryz.zeroValue161
  t146 := Tryz.underlying162
  a146 := Tryz.isAgg162
  z146 := Tryz.sizeOf162
  v146 := Tryz.zeroValue162
  g1 := by kernel_rfl }
open Go.RowKit Go.Lib in
theorem Tryz.stringslite_Index_one (s : ByteArray) (c : UInt8) (w : World) :
    Calls Tryz.prog 152 #[.string s, .string ⟨#[c]⟩] w fun e w' => e = .returned (.int .i64 (Lib.indexByte s.data.toList c)) ∧ w' = w := Any.stringslite_Index_one Tryz.lays219 s c w
def Tryz.lays190_ren : Go.Shelf.Ren := ⟨fun | 190 => 157 | 125 => 186 | 258 => 185 | 128 => 205 | 129 => 206 | 302 => 196 | 303 => 197 | 304 => 198 | 305 => 199 | 306 => 200 | 307 => 201 | 308 => 202 | 309 => 203 | 310 => 204 | 333 => 210 | 329 => 211 | 330 => 212 | 334 => 213 | 335 => 214 | 336 => 215 | 344 => 219 | n => n, fun | 31 => 22 | 9 => 9 | 3 => 3 | 46 => 131 | 0 => 0 | 51 => 161 | 53 => 107 | 4 => 4 | 183 => 166 | 182 => 165 | 131 => 101 | 5 => 5 | 218 => 179 | 222 => 183 | 228 => 188 | 229 => 189 | n => n, fun | n => n⟩
theorem Tryz.lays190 : Go.Proofs.Lays.n190 Tryz.prog Tryz.lays190_ren := {
  mixed := by kernel_rfl
  f125 := Tryz.func186.trans (congrArg some (by kernel_rfl))
  f128 := Tryz.func205.trans (congrArg some (by kernel_rfl))
  f129 := Tryz.func206.trans (congrArg some (by kernel_rfl))
  f190 := Tryz.func157.trans (congrArg some (by kernel_rfl))
  f258 := Tryz.func185.trans (congrArg some (by kernel_rfl))
  f302 := Tryz.func196.trans (congrArg some (by kernel_rfl))
  f303 := Tryz.func197.trans (congrArg some (by kernel_rfl))
  f304 := Tryz.func198.trans (congrArg some (by kernel_rfl))
  f305 := Tryz.func199.trans (congrArg some (by kernel_rfl))
  f306 := Tryz.func200.trans (congrArg some (by kernel_rfl))
  f307 := Tryz.func201.trans (congrArg some (by kernel_rfl))
  f308 := Tryz.func202.trans (congrArg some (by kernel_rfl))
  f309 := Tryz.func203.trans (congrArg some (by kernel_rfl))
  f310 := Tryz.func204.trans (congrArg some (by kernel_rfl))
  f329 := Tryz.func211.trans (congrArg some (by kernel_rfl))
  f330 := Tryz.func212.trans (congrArg some (by kernel_rfl))
  f333 := Tryz.func210.trans (congrArg some (by kernel_rfl))
  f334 := Tryz.func213.trans (congrArg some (by kernel_rfl))
  f335 := Tryz.func214.trans (congrArg some (by kernel_rfl))
  f336 := Tryz.func215.trans (congrArg some (by kernel_rfl))
  f344 := Tryz.func219.trans (congrArg some (by kernel_rfl))
  t0 := Tryz.underlying0
  a0 := Tryz.isAgg0
  z0 := Tryz.sizeOf0
  v0 := Tryz.zeroValue0
  t3 := Tryz.underlying3
  a3 := Tryz.isAgg3
  z3 := Tryz.sizeOf3
  v3 := Tryz.zeroValue3
  t4 := Tryz.underlying4
  a4 := Tryz.isAgg4
  z4 := Tryz.sizeOf4
  v4 := Tryz.zeroValue4
  t5 := Tryz.underlying5
  a5 := Tryz.isAgg5
  z5 := Tryz.sizeOf5
  v5 := Tryz.zeroValue5
  t9 := Tryz.underlying9
  a9 := Tryz.isAgg9
  z9 := Tryz.sizeOf9
  v9 := Tryz.zeroValue9
  t31 := Tryz.underlying22
  a31 := Tryz.isAgg22
  z31 := Tryz.sizeOf22
  v31 := Tryz.zeroValue22
  t46 := Tryz.underlying131
  a46 := Tryz.isAgg131
  z46 := Tryz.sizeOf131
  v46 := Tryz.zeroValue131
  t51 := Tryz.underlying161
  a51 := Tryz.isAgg161
  z51 := Tryz.sizeOf161
  v51 := Tryz.zeroValue161
  t53 := Tryz.underlying107
  a53 := Tryz.isAgg107
  z53 := Tryz.sizeOf107
  v53 := Tryz.zeroValue107
  t131 := Tryz.underlying101
  a131 := Tryz.isAgg101
  z131 := Tryz.sizeOf101
  v131 := Tryz.zeroValue101
  t182 := Tryz.underlying165
  a182 := Tryz.isAgg165
  z182 := Tryz.sizeOf165
  v182 := Tryz.zeroValue165
  t183 := Tryz.underlying166
  a183 := Tryz.isAgg166
  z183 := Tryz.sizeOf166
  v183 := Tryz.zeroValue166
  t218 := Tryz.underlying179
  a218 := Tryz.isAgg179
  z218 := Tryz.sizeOf179
  v218 := Tryz.zeroValue179
  t222 := Tryz.underlying183
  a222 := Tryz.isAgg183
  z222 := Tryz.sizeOf183
  v222 := Tryz.zeroValue183
  t228 := Tryz.underlying188
  a228 := Tryz.isAgg188
  z228 := Tryz.sizeOf188
  v228 := Tryz.zeroValue188
  t229 := Tryz.underlying189
  a229 := Tryz.isAgg189
  z229 := Tryz.sizeOf189
  v229 := Tryz.zeroValue189 }
open Go.Sort Go.RowKit in
theorem Tryz.slices_Sort_string (blk off cap : Nat) (ss : List (List UInt8)) (w : World) (hH : Holds encStr w blk off ss.toArray) (hblk : blk < w.heap.size) (hsz : ss.length < 4611686018427387904) :
    Calls Tryz.prog 157 #[.slice (some ⟨blk, off, none⟩) ss.length cap] w fun e w' =>
      e = .returned (.tuple #[]) ∧ ∃ n os, w' = grow (putRow encStr (Sort.ahead w n) blk off (ss.mergeSort fun x y => decide (x ≤ y)).toArray) os := Any.slices_Sort_string Tryz.lays190 blk off cap ss w hH hblk hsz
def Tryz.lays221_ren : Go.Shelf.Ren := ⟨fun | 221 => 109 | 268 => 153 | 138 => 154 | 143 => 155 | 195 => 181 | 197 => 182 | 218 => 183 | 219 => 152 | 260 => 195 | 217 => 160 | 225 => 178 | 224 => 179 | 267 => 180 | 266 => 187 | 314 => 194 | n => n, fun | 9 => 9 | 3 => 3 | 31 => 22 | 4 => 4 | 0 => 0 | 105 => 143 | 21 => 21 | 5 => 5 | 46 => 131 | 119 => 175 | 139 => 178 | 138 => 177 | 146 => 162 | 51 => 161 | n => n, fun | 1 => 0 | 3 => 1 | 4 => 2 | n => n⟩
theorem Tryz.lays221 : Go.Proofs.Lays.n221 Tryz.prog Tryz.lays221_ren := {
  mixed := by kernel_rfl
  f138 := Tryz.func154.trans (congrArg some (by kernel_rfl))
  f143 := Tryz.func155.trans (congrArg some (by kernel_rfl))
  f195 := Tryz.func181.trans (congrArg some (by kernel_rfl))
  f197 := Tryz.func182.trans (congrArg some (by kernel_rfl))
  f217 := Tryz.func160.trans (congrArg some (by kernel_rfl))
  f218 := Tryz.func183.trans (congrArg some (by kernel_rfl))
  f219 := Tryz.func152.trans (congrArg some (by kernel_rfl))
  f221 := Tryz.func109.trans (congrArg some (by kernel_rfl))
  f224 := Tryz.func179.trans (congrArg some (by kernel_rfl))
  f225 := Tryz.func178.trans (congrArg some (by kernel_rfl))
  f260 := Tryz.func195.trans (congrArg some (by kernel_rfl))
  f266 := Tryz.func187.trans (congrArg some (by kernel_rfl))
  f267 := Tryz.func180.trans (congrArg some (by kernel_rfl))
  f268 := Tryz.func153.trans (congrArg some (by kernel_rfl))
  f314 := Tryz.func194.trans (congrArg some (by kernel_rfl))
  t0 := Tryz.underlying0
  a0 := Tryz.isAgg0
  z0 := Tryz.sizeOf0
  v0 := Tryz.zeroValue0
  t3 := Tryz.underlying3
  a3 := Tryz.isAgg3
  z3 := Tryz.sizeOf3
  v3 := Tryz.zeroValue3
  t4 := Tryz.underlying4
  a4 := Tryz.isAgg4
  z4 := Tryz.sizeOf4
  v4 := Tryz.zeroValue4
  t5 := Tryz.underlying5
  a5 := Tryz.isAgg5
  z5 := Tryz.sizeOf5
  v5 := Tryz.zeroValue5
  t9 := Tryz.underlying9
  a9 := Tryz.isAgg9
  z9 := Tryz.sizeOf9
  v9 := Tryz.zeroValue9
  t21 := Tryz.underlying21
  a21 := Tryz.isAgg21
  z21 := Tryz.sizeOf21
  v21 := Tryz.zeroValue21
  t31 := Tryz.underlying22
  a31 := Tryz.isAgg22
  z31 := Tryz.sizeOf22
  v31 := Tryz.zeroValue22
  t46 := Tryz.underlying131
  a46 := Tryz.isAgg131
  z46 := Tryz.sizeOf131
  v46 := Tryz.zeroValue131
  t51 := Tryz.underlying161
  a51 := Tryz.isAgg161
  z51 := Tryz.sizeOf161
  v51 := Tryz.zeroValue161
  t105 := Tryz.underlying143
  a105 := Tryz.isAgg143
  z105 := Tryz.sizeOf143
  v105 := Tryz.zeroValue143
  t119 := Tryz.underlying175
  a119 := Tryz.isAgg175
  z119 := Tryz.sizeOf175
  t138 := Tryz.underlying177
  a138 := Tryz.isAgg177
  z138 := Tryz.sizeOf177
  v138 := Tryz.zeroValue177
  t139 := Tryz.underlying178
  a139 := Tryz.isAgg178
  z139 := Tryz.sizeOf178
  v139 := Tryz.zeroValue178
  t146 := Tryz.underlying162
  a146 := Tryz.isAgg162
  z146 := Tryz.sizeOf162
  v146 := Tryz.zeroValue162
  g1 := by kernel_rfl
  g3 := by kernel_rfl
  g4 := by kernel_rfl }
def Tryz.lays154_ren : Go.Shelf.Ren := ⟨fun | 154 => 189 | 138 => 154 | 165 => 190 | 143 => 155 | 166 => 191 | 197 => 182 | 169 => 192 | 195 => 181 | 218 => 183 | 240 => 208 | 241 => 209 | 219 => 152 | 260 => 195 | 276 => 217 | 277 => 218 | 217 => 160 | 225 => 178 | 224 => 179 | 267 => 180 | 266 => 187 | 314 => 194 | n => n, fun | 9 => 9 | 3 => 3 | 4 => 4 | 72 => 154 | 0 => 0 | 76 => 158 | 105 => 143 | 21 => 21 | 5 => 5 | 70 => 152 | 20 => 20 | 37 => 108 | 75 => 157 | 127 => 174 | 164 => 185 | 46 => 131 | 119 => 175 | 139 => 178 | 138 => 177 | 146 => 162 | 51 => 161 | 80 => 160 | n => n, fun | 1 => 0 | 3 => 1 | 4 => 2 | n => n⟩
theorem Tryz.lays154 : Go.Proofs.Lays.n154 Tryz.prog Tryz.lays154_ren := {
  mixed := by kernel_rfl
  f138 := Tryz.func154.trans (congrArg some (by kernel_rfl))
  f143 := Tryz.func155.trans (congrArg some (by kernel_rfl))
  f154 := Tryz.func189.trans (congrArg some (by kernel_rfl))
  f165 := Tryz.func190.trans (congrArg some (by kernel_rfl))
  f166 := Tryz.func191.trans (congrArg some (by kernel_rfl))
  f169 := Tryz.func192.trans (congrArg some (by kernel_rfl))
  f195 := Tryz.func181.trans (congrArg some (by kernel_rfl))
  f197 := Tryz.func182.trans (congrArg some (by kernel_rfl))
  f217 := Tryz.func160.trans (congrArg some (by kernel_rfl))
  f218 := Tryz.func183.trans (congrArg some (by kernel_rfl))
  f219 := Tryz.func152.trans (congrArg some (by kernel_rfl))
  f224 := Tryz.func179.trans (congrArg some (by kernel_rfl))
  f225 := Tryz.func178.trans (congrArg some (by kernel_rfl))
  f240 := Tryz.func208.trans (congrArg some (by kernel_rfl))
  f241 := Tryz.func209.trans (congrArg some (by kernel_rfl))
  f260 := Tryz.func195.trans (congrArg some (by kernel_rfl))
  f266 := Tryz.func187.trans (congrArg some (by kernel_rfl))
  f267 := Tryz.func180.trans (congrArg some (by kernel_rfl))
  f276 := Tryz.func217.trans (congrArg some (by kernel_rfl))
  f277 := Tryz.func218.trans (congrArg some (by kernel_rfl))
  f314 := Tryz.func194.trans (congrArg some (by kernel_rfl))
  t0 := Tryz.underlying0
  a0 := Tryz.isAgg0
  z0 := Tryz.sizeOf0
  v0 := Tryz.zeroValue0
  t3 := Tryz.underlying3
  a3 := Tryz.isAgg3
  z3 := Tryz.sizeOf3
  v3 := Tryz.zeroValue3
  t4 := Tryz.underlying4
  a4 := Tryz.isAgg4
  z4 := Tryz.sizeOf4
  v4 := Tryz.zeroValue4
  t5 := Tryz.underlying5
  a5 := Tryz.isAgg5
  z5 := Tryz.sizeOf5
  v5 := Tryz.zeroValue5
  t9 := Tryz.underlying9
  a9 := Tryz.isAgg9
  z9 := Tryz.sizeOf9
  v9 := Tryz.zeroValue9
  t20 := Tryz.underlying20
  a20 := Tryz.isAgg20
  z20 := Tryz.sizeOf20
  v20 := Tryz.zeroValue20
  t21 := Tryz.underlying21
  a21 := Tryz.isAgg21
  z21 := Tryz.sizeOf21
  v21 := Tryz.zeroValue21
  t37 := Tryz.underlying108
  a37 := Tryz.isAgg108
  z37 := Tryz.sizeOf108
  v37 := Tryz.zeroValue108
  t46 := Tryz.underlying131
  a46 := Tryz.isAgg131
  z46 := Tryz.sizeOf131
  v46 := Tryz.zeroValue131
  t51 := Tryz.underlying161
  a51 := Tryz.isAgg161
  z51 := Tryz.sizeOf161
  v51 := Tryz.zeroValue161
  t70 := Tryz.underlying152
  a70 := Tryz.isAgg152
  z70 := Tryz.sizeOf152
  v70 := Tryz.zeroValue152
  t72 := Tryz.underlying154
  a72 := Tryz.isAgg154
  z72 := Tryz.sizeOf154
  v72 := Tryz.zeroValue154
  t75 := Tryz.underlying157
  a75 := Tryz.isAgg157
  z75 := Tryz.sizeOf157
  v75 := Tryz.zeroValue157
  t76 := Tryz.underlying158
  a76 := Tryz.isAgg158
  z76 := Tryz.sizeOf158
  v76 := Tryz.zeroValue158
  t105 := Tryz.underlying143
  a105 := Tryz.isAgg143
  z105 := Tryz.sizeOf143
  v105 := Tryz.zeroValue143
  t119 := Tryz.underlying175
  a119 := Tryz.isAgg175
  z119 := Tryz.sizeOf175
  t127 := Tryz.underlying174
  a127 := Tryz.isAgg174
  z127 := Tryz.sizeOf174
  v127 := Tryz.zeroValue174
  t138 := Tryz.underlying177
  a138 := Tryz.isAgg177
  z138 := Tryz.sizeOf177
  v138 := Tryz.zeroValue177
  t139 := Tryz.underlying178
  a139 := Tryz.isAgg178
  z139 := Tryz.sizeOf178
  v139 := Tryz.zeroValue178
  t146 := Tryz.underlying162
  a146 := Tryz.isAgg162
  z146 := Tryz.sizeOf162
  v146 := Tryz.zeroValue162
  t164 := Tryz.underlying185
  a164 := Tryz.isAgg185
  z164 := Tryz.sizeOf185
  v164 := Tryz.zeroValue185
  g1 := by kernel_rfl
  g3 := by kernel_rfl
  g4 := by kernel_rfl }
theorem Tryz.Builder_Extra_154 : Builder.Extra Tryz.prog Tryz.lays154_ren := {
  sizeBuilder := by kernel_rfl
  liesBuilder := by kernel_rfl
  t5 := Tryz.underlying5
  a5 := Tryz.isAgg5
  z5 := Tryz.sizeOf5
  v5 := Tryz.zeroValue5
  infoByte := by kernel_rfl
  cellsByte := by kernel_rfl
  sizeByte := by kernel_rfl
  neB5 := by decide }
def Tryz.lays194_ren : Go.Shelf.Ren := ⟨fun | 194 => 158 | n => n, fun | 31 => 22 | 9 => 9 | 3 => 3 | 4 => 4 | 0 => 0 | n => n, fun | n => n⟩
theorem Tryz.lays194 : Go.Proofs.Lays.n194 Tryz.prog Tryz.lays194_ren := {
  mixed := by kernel_rfl
  f194 := Tryz.func158.trans (congrArg some (by kernel_rfl))
  t0 := Tryz.underlying0
  a0 := Tryz.isAgg0
  z0 := Tryz.sizeOf0
  v0 := Tryz.zeroValue0
  t3 := Tryz.underlying3
  a3 := Tryz.isAgg3
  z3 := Tryz.sizeOf3
  v3 := Tryz.zeroValue3
  t4 := Tryz.underlying4
  a4 := Tryz.isAgg4
  z4 := Tryz.sizeOf4
  v4 := Tryz.zeroValue4
  t9 := Tryz.underlying9
  a9 := Tryz.isAgg9
  z9 := Tryz.sizeOf9
  v9 := Tryz.zeroValue9
  t31 := Tryz.underlying22
  a31 := Tryz.isAgg22
  z31 := Tryz.sizeOf22
  v31 := Tryz.zeroValue22 }
open Go.RowKit Go.Lib Go.Sort in
theorem Tryz.slices_Compact_string (blk off cap : Nat) (zs : List (List UInt8)) (w : World) (hH : Holds encStr w blk off zs.toArray) (hsz : zs.length ≤ 9223372036854775807) (hcap : zs.length ≤ cap) :
    Calls Tryz.prog 158 #[.slice (some ⟨blk, off, none⟩) zs.length cap] w fun e w' => e = .returned (.slice (some ⟨blk, off, none⟩) (Lib.compact zs).length cap) ∧ ∃ q, w' = putRow encStr (Sort.ahead w q) blk off (Lib.compact zs ++ List.replicate (zs.length - (Lib.compact zs).length) []).toArray := Any.slices_Compact_string Tryz.lays194 blk off cap zs w hH hsz hcap
open Go.RowKit Go.Lib Go.Sort in
theorem Tryz.slices_Compact_string_empty (a : Option Addr) (cap : Nat) (w : World) :
    Calls Tryz.prog 158 #[.slice a 0 cap] w fun e w' => e = .returned (.slice a 0 cap) ∧ w' = w := Any.slices_Compact_string_empty Tryz.lays194 a cap w
open Go.RowKit Go.Sort in
theorem Tryz.slices_Sort_string_none (p : Option Addr) (cap : Nat) (w : World) :
    Calls Tryz.prog 157 #[.slice p 0 cap] w fun e w' => e = .returned (.tuple #[]) ∧ w' = w := Any.slices_Sort_string_none Tryz.lays190 p cap w
end Go.Proofs
namespace Go.Proofs.YtgniedpgdjmfpaaGreatDoor.Pl
open Go
abbrev Str := List UInt8
theorem s_irrefl (a : Str) : ¬ a < a := List.lt_irrefl a
theorem s_trans {a b c : Str} (h : a < b) (h' : b < c) : a < c := List.lt_trans h h'
theorem s_asymm {a b : Str} (h : a < b) : ¬ b < a := fun h' => s_irrefl a (s_trans h h')
theorem s_le_iff {a b : Str} : a ≤ b ↔ ¬ b < a := Iff.rfl
theorem s_tri (a b : Str) : a < b ∨ a = b ∨ b < a := by
  by_cases h : a < b
  · exact .inl h
  · by_cases h' : b < a
    · exact .inr (.inr h')
    · exact .inr (.inl (List.le_antisymm h' h))
theorem s_le_trans {a b c : Str} (h : a ≤ b) (h' : b ≤ c) : a ≤ c := List.le_trans h h'
theorem s_lt_of_le_ne {a b : Str} (h : a ≤ b) (hn : a ≠ b) : a < b := by
  rcases s_tri a b with h1 | h1 | h1
  · exact h1
  · exact absurd h1 hn
  · exact absurd h1 h
def SS (l : List Str) : Prop := l.Pairwise (· < ·)
theorem ss_unique : ∀ {l m : List Str}, SS l → SS m → (∀ x, x ∈ l ↔ x ∈ m) → l = m
  | [], [], _, _, _ => rfl
  | [], b :: m, _, _, h => by have := (h b).2 List.mem_cons_self; cases this
  | a :: l, [], _, _, h => by have := (h a).1 List.mem_cons_self; cases this
  | a :: l, b :: m, hl, hm, h => by
    have hl' := List.pairwise_cons.1 hl
    have hm' := List.pairwise_cons.1 hm
    have e : a = b := by
      have h1 := (h a).1 List.mem_cons_self
      have h2 := (h b).2 List.mem_cons_self
      rcases List.mem_cons.1 h1 with h1 | h1
      · exact h1
      · rcases List.mem_cons.1 h2 with h2 | h2
        · exact h2.symm
        · exact absurd (hm'.1 a h1) (s_asymm (hl'.1 b h2))
    subst e
    rw [ss_unique hl'.2 hm'.2 fun x => ⟨fun hx => ?_, fun hx => ?_⟩]
    · rcases List.mem_cons.1 ((h x).1 (List.mem_cons_of_mem _ hx)) with e | e
      · subst e; exact absurd (hl'.1 x hx) (s_irrefl x)
      · exact e
    · rcases List.mem_cons.1 ((h x).2 (List.mem_cons_of_mem _ hx)) with e | e
      · subst e; exact absurd (hm'.1 x hx) (s_irrefl x)
      · exact e
def cpTail (p : Str) : List Str → List Str
  | [] => []
  | a :: t => if a = p then cpTail a t else a :: cpTail a t
theorem cpTail_snoc : ∀ (l : List Str) (p x : Str), cpTail p (l ++ [x]) = cpTail p l ++ (if x = (p :: l).getLastD p then [] else [x])
  | [], p, x => by simp [cpTail]
  | a :: t, p, x => by
    have ih := cpTail_snoc t a x
    have e : (p :: a :: t).getLastD p = (a :: t).getLastD a := by cases t <;> simp [List.getLastD]
    simp only [List.cons_append, cpTail, ih, e]
    split <;> simp
theorem compact_cons (a : Str) (t : List Str) : Lib.compact (a :: t) = a :: cpTail a t := by
  have key : ∀ m, m ≤ t.length → Lib.compactUpTo (a :: t).toArray (m + 1) = a :: cpTail a (t.take m) := by
    intro m
    induction m with
    | zero =>
      intro _
      rw [Lib.compactUpTo_succ, Lib.keeps_lt_one _ 0 (by decide)]
      simp [Lib.compactUpTo, cpTail]
    | succ m ih =>
      intro hm
      have hlt : m < t.length := by omega
      have e1 : (a :: t).toArray[m + 1]! = t[m] := by simp [hlt]
      have e2 : (a :: t).toArray[m + 1 - 1]! = (a :: t.take m).getLastD a := by
        cases m with
        | zero => simp
        | succ k =>
          have hk : k < t.length := by omega
          have : (a :: t.take (k + 1)).getLastD a = t[k] := by
            rw [show a :: t.take (k + 1) = (a :: t.take k) ++ [t[k]] from by rw [List.cons_append, List.take_append_getElem hk], List.getLastD_eq_getLast?, List.getLast?_concat]
            rfl
          rw [this]
          simp [hk]
      rw [Lib.compactUpTo_succ, ih (by omega), ← List.take_append_getElem hlt, cpTail_snoc, ← e2, e1]
      by_cases hx : t[m] = (a :: t).toArray[m + 1 - 1]!
      · rw [Lib.keeps_neg (by omega) (by rw [e1]; exact hx), if_pos hx]
        simp
      · rw [Lib.keeps_pos (by rw [e1]; exact hx), if_neg hx]
        simp
  have h := key t.length (Nat.le_refl _)
  rw [List.take_length] at h
  exact h
theorem cpTail_spec : ∀ (l : List Str) (p : Str), (p :: l).Pairwise (· ≤ ·) → SS (p :: cpTail p l) ∧ ∀ x, x ∈ p :: cpTail p l ↔ x ∈ p :: l
  | [], p, _ => ⟨by simp [SS, cpTail], fun x => by simp [cpTail]⟩
  | a :: t, p, h => by
    have h1 := List.pairwise_cons.1 h
    obtain ⟨i1, i2⟩ := cpTail_spec t a h1.2
    unfold cpTail
    split
    · rename_i e
      subst e
      refine ⟨i1, fun x => ?_⟩
      rw [i2 x]
      simp
    · rename_i hne
      have hpa : p < a := s_lt_of_le_ne (h1.1 a List.mem_cons_self) (fun e => hne e.symm)
      refine ⟨List.pairwise_cons.2 ⟨fun x hx => ?_, i1⟩, fun x => ?_⟩
      · rcases List.mem_cons.1 hx with e | e
        · subst e; exact hpa
        · exact s_trans hpa ((List.pairwise_cons.1 i1).1 x e)
      · rw [List.mem_cons, i2 x, List.mem_cons (b := p)]
theorem cpTail_len : ∀ (l : List Str) (p : Str), (cpTail p l).length ≤ l.length
  | [], _ => Nat.le_refl _
  | a :: t, p => by
    have := cpTail_len t a
    unfold cpTail
    split
    · simp only [List.length_cons]; omega
    · simp only [List.length_cons]; omega
def msort (l : List Str) : List Str := l.mergeSort fun x y => decide (x ≤ y)
def sortD (l : List Str) : List Str := Lib.compact (msort l)
theorem msort_pw (l : List Str) : (msort l).Pairwise (· ≤ ·) := by
  have h := List.pairwise_mergeSort (le := fun x y : Str => decide (x ≤ y)) (fun a b c h h' => by
    simp only [decide_eq_true_eq] at *
    exact s_le_trans h h') (fun a b => by
    simp only [Bool.or_eq_true, decide_eq_true_eq]
    exact List.le_total a b) l
  exact h.imp (fun h => by simpa using h)
theorem msort_mem {l : List Str} {x : Str} : x ∈ msort l ↔ x ∈ l := List.mem_mergeSort
theorem msort_len (l : List Str) : (msort l).length = l.length := List.length_mergeSort l
theorem sortD_spec (l : List Str) : SS (sortD l) ∧ ∀ x, x ∈ sortD l ↔ x ∈ l := by
  have hp := msort_pw l
  have hm : ∀ x, x ∈ msort l ↔ x ∈ l := fun x => msort_mem
  unfold sortD
  generalize msort l = m at hp hm
  cases m with
  | nil => exact ⟨List.Pairwise.nil, hm⟩
  | cons a t =>
    rw [compact_cons]
    obtain ⟨h1, h2⟩ := cpTail_spec t a hp
    exact ⟨h1, fun x => (h2 x).trans (hm x)⟩
theorem sortD_mem {l : List Str} {x : Str} : x ∈ sortD l ↔ x ∈ l := (sortD_spec l).2 x
theorem sortD_eq {l m : List Str} (hs : SS m) (h : ∀ x, x ∈ m ↔ x ∈ l) : sortD l = m := ss_unique (sortD_spec l).1 hs fun x => (sortD_mem).trans (h x).symm
theorem compact_len (l : List Str) : (Lib.compact l).length ≤ l.length := by
  cases l with
  | nil => exact Nat.le_refl _
  | cons a t =>
    rw [compact_cons]
    have := cpTail_len t a
    simp only [List.length_cons]
    omega
theorem sortD_len (l : List Str) : (sortD l).length ≤ l.length := by
  have := compact_len (msort l)
  rw [msort_len] at this
  exact this
end Go.Proofs.YtgniedpgdjmfpaaGreatDoor.Pl
namespace Go.Proofs.YtgniedpgdjmfpaaGreatDoor.Rf
open Go Go.RowKit Go.Sort Go.Proofs.YtgniedpgdjmfpaaGreatDoor.Mir
structure Node where
  kind : Int
  text : List UInt8
  keys : List (List UInt8)
  kids : List Node
structure form where
  n : Node
  bad : Bool
structure Port where
  host : List UInt8
  out : Int
  in_ : Int
  proto : List UInt8
structure Mount where
  source : List UInt8
  target : List UInt8
  readOnly : Bool
structure field where
  n : Node
  left : Int
  bad : Bool
structure Arr112 where
  e0 : List UInt8
  e1 : List UInt8
  e2 : List UInt8
  e3 : List UInt8
structure St120 where
  long : Int
  name : List UInt8
structure Arr121 where
  e0 : St120
  e1 : St120
  e2 : St120
  e3 : St120
structure budget where
  left : Int
structure Arr137 where
  e0 : Int
  e1 : Int
  e2 : Int
  e3 : Int
inductive Ty where
  | int | str | l_str | l_api_Node | api_Node | bool | api_Errno | norm_form | api_Port | fn71 | api_Mount | norm_field | byte | a4_str | l_byte | fn113 | st120 | a4_st120 | u64 | node_budget | a4_int | u64131
  deriving DecidableEq
abbrev Den : Ty → Type
  | .int => Int
  | .str => List UInt8
  | .l_str => List (List UInt8)
  | .l_api_Node => List Node
  | .api_Node => Node
  | .bool => Bool
  | .api_Errno => Int
  | .norm_form => form
  | .api_Port => Port
  | .fn71 => Nat
  | .api_Mount => Mount
  | .norm_field => field
  | .byte => Int
  | .a4_str => Arr112
  | .l_byte => List Int
  | .fn113 => Nat
  | .st120 => St120
  | .a4_st120 => Arr121
  | .u64 => Int
  | .node_budget => budget
  | .a4_int => Arr137
  | .u64131 => Int
def tid : Ty → TypeId
  | .int => 3
  | .str => 9
  | .l_str => 22
  | .l_api_Node => 23
  | .api_Node => 25
  | .bool => 4
  | .api_Errno => 30
  | .norm_form => 39
  | .api_Port => 41
  | .fn71 => 71
  | .api_Mount => 81
  | .norm_field => 92
  | .byte => 5
  | .a4_str => 112
  | .l_byte => 108
  | .fn113 => 113
  | .st120 => 120
  | .a4_st120 => 121
  | .u64 => 107
  | .node_budget => 133
  | .a4_int => 137
  | .u64131 => 131
def code : TypeId → Option Ty
  | 3 => some .int
  | 9 => some .str
  | 22 => some .l_str
  | 23 => some .l_api_Node
  | 25 => some .api_Node
  | 4 => some .bool
  | 30 => some .api_Errno
  | 39 => some .norm_form
  | 41 => some .api_Port
  | 71 => some .fn71
  | 81 => some .api_Mount
  | 92 => some .norm_field
  | 5 => some .byte
  | 112 => some .a4_str
  | 108 => some .l_byte
  | 113 => some .fn113
  | 120 => some .st120
  | 121 => some .a4_st120
  | 107 => some .u64
  | 133 => some .node_budget
  | 137 => some .a4_int
  | 131 => some .u64131
  | _ => none
def agg : Ty → Bool
  | .int => false
  | .str => false
  | .l_str => false
  | .l_api_Node => false
  | .api_Node => true
  | .bool => false
  | .api_Errno => false
  | .norm_form => true
  | .api_Port => true
  | .fn71 => false
  | .api_Mount => true
  | .norm_field => true
  | .byte => false
  | .a4_str => true
  | .l_byte => false
  | .fn113 => false
  | .st120 => true
  | .a4_st120 => true
  | .u64 => false
  | .node_budget => true
  | .a4_int => true
  | .u64131 => false
def size : Ty → Nat
  | .int => 1
  | .str => 1
  | .l_str => 1
  | .l_api_Node => 1
  | .api_Node => 4
  | .bool => 1
  | .api_Errno => 1
  | .norm_form => 5
  | .api_Port => 4
  | .fn71 => 1
  | .api_Mount => 3
  | .norm_field => 6
  | .byte => 1
  | .a4_str => 4
  | .l_byte => 1
  | .fn113 => 1
  | .st120 => 2
  | .a4_st120 => 8
  | .u64 => 1
  | .node_budget => 1
  | .a4_int => 4
  | .u64131 => 1
def bytes : Ty → Nat
  | .int => 8
  | .str => 16
  | .l_str => 24
  | .l_api_Node => 24
  | .api_Node => 72
  | .bool => 1
  | .api_Errno => 8
  | .norm_form => 80
  | .api_Port => 48
  | .fn71 => 8
  | .api_Mount => 40
  | .norm_field => 88
  | .byte => 1
  | .a4_str => 64
  | .l_byte => 24
  | .fn113 => 8
  | .st120 => 24
  | .a4_st120 => 96
  | .u64 => 8
  | .node_budget => 8
  | .a4_int => 32
  | .u64131 => 8
def cells : (t : Ty) → Den t → List (DVal Den)
  | .int, x => [.int .i64 x]
  | .str, x => [.str x]
  | .l_str, x => [.slice .str x]
  | .l_api_Node, x => [.slice .api_Node x]
  | .api_Node, x => [.int .i64 x.kind, .str x.text, .slice .str x.keys, .slice .api_Node x.kids]
  | .bool, x => [.bool x]
  | .api_Errno, x => [.int .i64 x]
  | .norm_form, x => [.int .i64 x.n.kind, .str x.n.text, .slice .str x.n.keys, .slice .api_Node x.n.kids, .bool x.bad]
  | .api_Port, x => [.str x.host, .int .i64 x.out, .int .i64 x.in_, .str x.proto]
  | .fn71, x => [.raw (.func (.func x) #[] #[])]
  | .api_Mount, x => [.str x.source, .str x.target, .bool x.readOnly]
  | .norm_field, x => [.int .i64 x.n.kind, .str x.n.text, .slice .str x.n.keys, .slice .api_Node x.n.kids, .int .i64 x.left, .bool x.bad]
  | .byte, x => [.int .u8 x]
  | .a4_str, x => [.str x.e0, .str x.e1, .str x.e2, .str x.e3]
  | .l_byte, x => [.slice .byte x]
  | .fn113, x => [.raw (.func (.func x) #[] #[])]
  | .st120, x => [.int .i64 x.long, .str x.name]
  | .a4_st120, x => [.int .i64 x.e0.long, .str x.e0.name, .int .i64 x.e1.long, .str x.e1.name, .int .i64 x.e2.long, .str x.e2.name, .int .i64 x.e3.long, .str x.e3.name]
  | .u64, x => [.int .u64 x]
  | .node_budget, x => [.int .i64 x.left]
  | .a4_int, x => [.int .i64 x.e0, .int .i64 x.e1, .int .i64 x.e2, .int .i64 x.e3]
  | .u64131, x => [.int .u64 x]
def dec : DecidableEq Ty := inferInstance
def fold : (t : Ty) → List (DVal Den) → Option (Den t)
  | .int, [c] => dInt .i64 c
  | .str, [c] => dStr c
  | .l_str, [c] => dSl dec .str c
  | .l_api_Node, [c] => dSl dec .api_Node c
  | .api_Node, [c0, c1, c2, c3] => match dInt .i64 c0, dStr c1, dSl dec .str c2, dSl dec .api_Node c3 with | some y0, some y1, some y2, some y3 => some (⟨y0, y1, y2, y3⟩ : Node) | _, _, _, _ => none
  | .bool, [c] => dBl c
  | .api_Errno, [c] => dInt .i64 c
  | .norm_form, [c0, c1, c2, c3, c4] => match dInt .i64 c0, dStr c1, dSl dec .str c2, dSl dec .api_Node c3, dBl c4 with | some y0, some y1, some y2, some y3, some y4 => some (⟨(⟨y0, y1, y2, y3⟩ : Node), y4⟩ : form) | _, _, _, _, _ => none
  | .api_Port, [c0, c1, c2, c3] => match dStr c0, dInt .i64 c1, dInt .i64 c2, dStr c3 with | some y0, some y1, some y2, some y3 => some (⟨y0, y1, y2, y3⟩ : Port) | _, _, _, _ => none
  | .fn71, [c] => dFn c
  | .api_Mount, [c0, c1, c2] => match dStr c0, dStr c1, dBl c2 with | some y0, some y1, some y2 => some (⟨y0, y1, y2⟩ : Mount) | _, _, _ => none
  | .norm_field, [c0, c1, c2, c3, c4, c5] => match dInt .i64 c0, dStr c1, dSl dec .str c2, dSl dec .api_Node c3, dInt .i64 c4, dBl c5 with | some y0, some y1, some y2, some y3, some y4, some y5 => some (⟨(⟨y0, y1, y2, y3⟩ : Node), y4, y5⟩ : field) | _, _, _, _, _, _ => none
  | .byte, [c] => dInt .u8 c
  | .a4_str, [c0, c1, c2, c3] => match dStr c0, dStr c1, dStr c2, dStr c3 with | some y0, some y1, some y2, some y3 => some (⟨y0, y1, y2, y3⟩ : Arr112) | _, _, _, _ => none
  | .l_byte, [c] => dSl dec .byte c
  | .fn113, [c] => dFn c
  | .st120, [c0, c1] => match dInt .i64 c0, dStr c1 with | some y0, some y1 => some (⟨y0, y1⟩ : St120) | _, _ => none
  | .a4_st120, [c0, c1, c2, c3, c4, c5, c6, c7] => match dInt .i64 c0, dStr c1, dInt .i64 c2, dStr c3, dInt .i64 c4, dStr c5, dInt .i64 c6, dStr c7 with | some y0, some y1, some y2, some y3, some y4, some y5, some y6, some y7 => some (⟨(⟨y0, y1⟩ : St120), (⟨y2, y3⟩ : St120), (⟨y4, y5⟩ : St120), (⟨y6, y7⟩ : St120)⟩ : Arr121) | _, _, _, _, _, _, _, _ => none
  | .u64, [c] => dInt .u64 c
  | .node_budget, [c0] => match dInt .i64 c0 with | some y0 => some (⟨y0⟩ : budget) | _ => none
  | .a4_int, [c0, c1, c2, c3] => match dInt .i64 c0, dInt .i64 c1, dInt .i64 c2, dInt .i64 c3 with | some y0, some y1, some y2, some y3 => some (⟨y0, y1, y2, y3⟩ : Arr137) | _, _, _, _ => none
  | .u64131, [c] => dInt .u64 c
  | _, _ => none
def dflt : (t : Ty) → Den t
  | .int => (0 : Int)
  | .str => []
  | .l_str => []
  | .l_api_Node => []
  | .api_Node => ⟨(0 : Int), [], [], []⟩
  | .bool => false
  | .api_Errno => (0 : Int)
  | .norm_form => ⟨⟨(0 : Int), [], [], []⟩, false⟩
  | .api_Port => ⟨[], (0 : Int), (0 : Int), []⟩
  | .fn71 => (0 : Nat)
  | .api_Mount => ⟨[], [], false⟩
  | .norm_field => ⟨⟨(0 : Int), [], [], []⟩, (0 : Int), false⟩
  | .byte => (0 : Int)
  | .a4_str => ⟨[], [], [], []⟩
  | .l_byte => []
  | .fn113 => (0 : Nat)
  | .st120 => ⟨(0 : Int), []⟩
  | .a4_st120 => ⟨⟨(0 : Int), []⟩, ⟨(0 : Int), []⟩, ⟨(0 : Int), []⟩, ⟨(0 : Int), []⟩⟩
  | .u64 => (0 : Int)
  | .node_budget => ⟨(0 : Int)⟩
  | .a4_int => ⟨(0 : Int), (0 : Int), (0 : Int), (0 : Int)⟩
  | .u64131 => (0 : Int)
def byteT : (t : Ty) → Option (Den t → Int)
  | .byte => some fun x => x
  | _ => none
theorem byte_ok : ∀ t f, byteT t = some f → ∀ x, cells t x = [.int .u8 (f x)] := by
  intro t f h x
  cases t <;> first | (cases h; rfl) | cases h
def byteU : (t : Ty) → Option (Int → Den t)
  | .byte => some fun x => x
  | _ => none
theorem byteU_ok : ∀ t g, byteU t = some g → ∀ n, cells t (g n) = [.int .u8 n] := by
  intro t g h n
  cases t <;> first | (cases h; rfl) | cases h
theorem fold_ok : ∀ t cs x, fold t cs = some x → CsLe cs (cells t x) := by
  intro t cs x h
  cases t
  case int => match cs, h with | [c], h => exact ⟨dInt_le h, trivial⟩
  case str => match cs, h with | [c], h => exact ⟨dStr_le h, trivial⟩
  case l_str => match cs, h with | [c], h => exact ⟨dSl_le h, trivial⟩
  case l_api_Node => match cs, h with | [c], h => exact ⟨dSl_le h, trivial⟩
  case api_Node =>
    match cs, h with
    | [c0, c1, c2, c3], h =>
      simp only [fold] at h
      split at h
      · rename_i h0 h1 h2 h3; cases h; exact ⟨dInt_le h0, dStr_le h1, dSl_le h2, dSl_le h3, trivial⟩
      · cases h
  case bool => match cs, h with | [c], h => exact ⟨dBl_le h, trivial⟩
  case api_Errno => match cs, h with | [c], h => exact ⟨dInt_le h, trivial⟩
  case norm_form =>
    match cs, h with
    | [c0, c1, c2, c3, c4], h =>
      simp only [fold] at h
      split at h
      · rename_i h0 h1 h2 h3 h4; cases h; exact ⟨dInt_le h0, dStr_le h1, dSl_le h2, dSl_le h3, dBl_le h4, trivial⟩
      · cases h
  case api_Port =>
    match cs, h with
    | [c0, c1, c2, c3], h =>
      simp only [fold] at h
      split at h
      · rename_i h0 h1 h2 h3; cases h; exact ⟨dStr_le h0, dInt_le h1, dInt_le h2, dStr_le h3, trivial⟩
      · cases h
  case fn71 => match cs, h with | [c], h => exact ⟨dFn_le h, trivial⟩
  case api_Mount =>
    match cs, h with
    | [c0, c1, c2], h =>
      simp only [fold] at h
      split at h
      · rename_i h0 h1 h2; cases h; exact ⟨dStr_le h0, dStr_le h1, dBl_le h2, trivial⟩
      · cases h
  case norm_field =>
    match cs, h with
    | [c0, c1, c2, c3, c4, c5], h =>
      simp only [fold] at h
      split at h
      · rename_i h0 h1 h2 h3 h4 h5; cases h; exact ⟨dInt_le h0, dStr_le h1, dSl_le h2, dSl_le h3, dInt_le h4, dBl_le h5, trivial⟩
      · cases h
  case byte => match cs, h with | [c], h => exact ⟨dInt_le h, trivial⟩
  case a4_str =>
    match cs, h with
    | [c0, c1, c2, c3], h =>
      simp only [fold] at h
      split at h
      · rename_i h0 h1 h2 h3; cases h; exact ⟨dStr_le h0, dStr_le h1, dStr_le h2, dStr_le h3, trivial⟩
      · cases h
  case l_byte => match cs, h with | [c], h => exact ⟨dSl_le h, trivial⟩
  case fn113 => match cs, h with | [c], h => exact ⟨dFn_le h, trivial⟩
  case st120 =>
    match cs, h with
    | [c0, c1], h =>
      simp only [fold] at h
      split at h
      · rename_i h0 h1; cases h; exact ⟨dInt_le h0, dStr_le h1, trivial⟩
      · cases h
  case a4_st120 =>
    match cs, h with
    | [c0, c1, c2, c3, c4, c5, c6, c7], h =>
      simp only [fold] at h
      split at h
      · rename_i h0 h1 h2 h3 h4 h5 h6 h7; cases h; exact ⟨dInt_le h0, dStr_le h1, dInt_le h2, dStr_le h3, dInt_le h4, dStr_le h5, dInt_le h6, dStr_le h7, trivial⟩
      · cases h
  case u64 => match cs, h with | [c], h => exact ⟨dInt_le h, trivial⟩
  case node_budget =>
    match cs, h with
    | [c0], h =>
      simp only [fold] at h
      split at h
      · rename_i h0; cases h; exact ⟨dInt_le h0, trivial⟩
      · cases h
  case a4_int =>
    match cs, h with
    | [c0, c1, c2, c3], h =>
      simp only [fold] at h
      split at h
      · rename_i h0 h1 h2 h3; cases h; exact ⟨dInt_le h0, dInt_le h1, dInt_le h2, dInt_le h3, trivial⟩
      · cases h
  case u64131 => match cs, h with | [c], h => exact ⟨dInt_le h, trivial⟩
theorem code_ok : ∀ i t, code i = some t → i = tid t := by
  intro i t h
  unfold code at h
  split at h <;> first | (cases h; rfl) | cases h
theorem info_ok : ∀ t, ∃ i z, Tryz.prog.info? (tid t) = some i ∧ i.size = size t ∧ i.bytes = bytes t ∧ i.zero = some z ∧ z.cells.size = size t := by
  intro t
  refine info_of ?_ rfl
  cases t <;> kernel_rfl
theorem agg_ok : ∀ t, isAggT Tryz.prog (tid t) = agg t := by intro t; cases t <;> kernel_rfl
theorem und_ok : ∀ t, (Tryz.prog.underlying (tid t)).isSome = true := by intro t; cases t <;> kernel_rfl
abbrev E : Env Tryz.prog where
  Ty := Ty
  dec := dec
  Den := Den
  tid := tid
  code := code
  agg := agg
  size := size
  bytes := bytes
  cells := cells
  fold := fold
  code_ok := code_ok
  info_ok := info_ok
  agg_ok := agg_ok
  und_ok := und_ok
  size_pos := by intro t; cases t <;> decide
  bytes_pos := by intro t; cases t <;> decide
  one := by intro t h; cases t <;> first | rfl | cases h
  cells_len := by intro t x; cases t <;> rfl
  dflt := dflt
  fold_ok := fold_ok
  byteT := byteT
  byteU := byteU
  byte_ok := byte_ok
  byteU_ok := byteU_ok
theorem mix : Tryz.prog.follows .mixedOrders = true := by kernel_rfl
def w64 (n : Int) : Int := IntKind.wrap .i64 n
theorem w64_id {n : Int} (h : -9223372036854775808 ≤ n) (h' : n ≤ 9223372036854775807) : w64 n = n := by
  unfold w64
  rw [IntKind.wrap_i64]
  omega
theorem gd {α : Type} (l : List α) (d : α) (i : Nat) (h : i < l.length) : List.getD l (Int.toNat (i : Int)) d = l[i] := by
  rw [Int.toNat_natCast, List.getD, List.getElem?_eq_getElem h]; rfl
theorem d0 (i : Nat) : decide ((0 : Int) ≤ (i : Int)) = true := by simp
theorem dlt {i n : Nat} (h : i < n) : decide ((i : Int) < (n : Int)) = true := by simp only [decide_eq_true_eq]; omega
theorem dge {i n : Nat} (h : n ≤ i) : decide ((i : Int) < (n : Int)) = false := by simp only [decide_eq_false_iff_not]; omega
theorem dT {p : Prop} [Decidable p] (h : p) : decide p = true := decide_eq_true h
theorem dF {p : Prop} [Decidable p] (h : ¬ p) : decide p = false := decide_eq_false h
theorem neT {a b : Int} (h : a ≠ b) : (a != b) = true := by simpa using h
theorem neF {a b : Int} (h : a = b) : (a != b) = false := by simp [h]
theorem eqT {a b : Int} (h : a = b) : (a == b) = true := by simp [h]
theorem eqF {a b : Int} (h : a ≠ b) : (a == b) = false := by simpa using h
theorem mb : maxBytes = 140737488355328 := rfl
theorem wu64 (n : Int) : IntKind.wrap .u64 n = n % 18446744073709551616 := by simp [IntKind.wrap, IntKind.bits, IntKind.signed]
theorem wu8 (n : Int) : IntKind.wrap .u8 n = n % 256 := by simp [IntKind.wrap, IntKind.bits, IntKind.signed]
theorem u64_id {n : Int} (h : 0 ≤ n) (h' : n < 18446744073709551616) : IntKind.wrap .u64 n = n := by rw [wu64]; omega
theorem u8_id {n : Int} (h : 0 ≤ n) (h' : n < 256) : IntKind.wrap .u8 n = n := by rw [wu8]; omega
theorem ms : maxStr = 4611686018427387904 := rfl
def dg (n : Nat) : UInt8 := UInt8.ofNat (48 + n)
def digsF : Nat → Nat → List UInt8
  | 0, _ => []
  | f + 1, u => if u < 10 then [dg u] else digsF f (u / 10) ++ [dg (u % 10)]
def digs (u : Nat) : List UInt8 := digsF 20 u
theorem digsF_len : ∀ (f u : Nat), (digsF f u).length ≤ f
  | 0, _ => Nat.le_refl _
  | f + 1, u => by
    unfold digsF
    split
    · simp
    · have := digsF_len f (u / 10)
      rw [List.length_append, List.length_singleton]; omega
def digitsV (u : Int) : List UInt8 := digs u.toNat
def textV (n : Int) : List UInt8 := bif decide (n < 0) then 45 :: digs (-n).toNat else digs n.toNat
theorem textV_len (n : Int) : (textV n).length ≤ 21 := by
  unfold textV digs
  cases decide (n < 0) with
  | true => have := digsF_len 20 (-n).toNat; simp only [cond_true, List.length_cons]; omega
  | false => have := digsF_len 20 n.toNat; simp only [cond_false]; omega
def okU (u : Int) : Bool := decide (0 ≤ u ∧ u < 18446744073709551616)
noncomputable def rdigits_W : FnW E := fn1 (E := E) .u64 .str okU digitsV
def rdigits_id : FuncId := 149
noncomputable def rdigits_O : Oracle E := orac [] [] [] []
noncomputable def rdigits_H : Hint E := Hint.mk [(0, [0, 3])] [] [] [] []
noncomputable def rdigits_C0 (v0 : Int) (v1 : List UInt8) : ASt E := ASt.mk 23 [(0, .d (.int .u64 v0)), (3, .d (.str v1))] [] 0
noncomputable def rdigits_t (G : Nat → ASt E → Option (List (TV E))) (x0 : Int) : Option (List (TV E)) :=
  G 0 (rdigits_C0 x0 [])
theorem rdigits_e (G : Nat → ASt E → Option (List (TV E))) (x0 : Int) : runE rdigits_O rdigits_H G Tryz.f149 [⟨.u64, x0⟩] = rdigits_t G x0 := by kernel_rfl
noncomputable def rdigits_t0 (G : Nat → ASt E → Option (List (TV E))) (v0 : Int) (v1 : List UInt8) : Option (List (TV E)) :=
  bif (decide ((10 : Int) ≤ v0)) then (bif (!((10 : Int) == (0 : Int))) then (bif (decide ((List.map (fun y => UInt8.ofNat (Int.toNat y)) ([(IntKind.wrap .u8 (IntKind.wrap .u64 ((48 : Int) + (Int.tmod v0 (10 : Int)))))] : List Int)).length + v1.length ≤ maxStr)) then (bif (!((10 : Int) == (0 : Int))) then G 0 (rdigits_C0 (IntKind.wrap .u64 (Int.tdiv v0 (10 : Int))) ((List.map (fun y => UInt8.ofNat (Int.toNat y)) ([(IntKind.wrap .u8 (IntKind.wrap .u64 ((48 : Int) + (Int.tmod v0 (10 : Int)))))] : List Int)) ++ v1)) else none) else none) else none) else (bif (decide ((List.map (fun y => UInt8.ofNat (Int.toNat y)) ([(IntKind.wrap .u8 (IntKind.wrap .u64 ((48 : Int) + v0)))] : List Int)).length + v1.length ≤ maxStr)) then some [⟨.str, ((List.map (fun y => UInt8.ofNat (Int.toNat y)) ([(IntKind.wrap .u8 (IntKind.wrap .u64 ((48 : Int) + v0)))] : List Int)) ++ v1)⟩] else none)
theorem rdigits_l0 (G : Nat → ASt E → Option (List (TV E))) (v0 : Int) (v1 : List UInt8) : runL rdigits_O rdigits_H G Tryz.f149 0 (rdigits_C0 v0 v1) = rdigits_t0 G v0 v1 := by kernel_rfl
theorem rdigits_f : Tryz.prog.funcs[149]? = some Tryz.f149 := by kernel_rfl
theorem rdigits_n : (Tryz.f149.name == "runtime.NumGoroutine") = false := by kernel_rfl
theorem rdigits_b : Tryz.f149.body.isNone = false := by kernel_rfl
theorem rdigits_hO : OracleOk E rdigits_O := orac_ok .nil .nil .nil .nil
theorem rdigits_s0 {res : List (TV E)} {v0 : Int} {v1 : List UInt8} (h : rdigits_t0 (Gr E Tryz.f149 res) v0 v1 = some res) : Ev E Tryz.f149 res 0 (rdigits_C0 v0 v1) := Ev.step rdigits_hO mix ((rdigits_l0 _ v0 v1).trans h)
theorem rdigits_ok_of (h : ∀ (x0 : Int), okU x0 = true → rdigits_t (Gr E Tryz.f149 [⟨.str, digitsV x0⟩]) x0 = some [⟨.str, digitsV x0⟩]) : FnOk E rdigits_id rdigits_W := fn1_ok rdigits_hO mix rdigits_f rdigits_n rdigits_b (fun x0 hk => (rdigits_e _ x0).trans (h x0 hk))
theorem dg_eq {n : Int} (h : 0 ≤ n) (h' : n < 10) : UInt8.ofNat (Int.toNat (IntKind.wrap .u8 (IntKind.wrap .u64 (48 + n)))) = dg n.toNat := by
  rw [u64_id (by omega) (by omega), u8_id (by omega) (by omega)]
  unfold dg
  rw [show (48 + n).toNat = 48 + n.toNat from by omega]
theorem rdigits_0 : ∀ (f u : Nat) (s : List UInt8), 1 ≤ f → u < 10 ^ f → u < 18446744073709551616 → s.length ≤ 1000 → s.length + f ≤ 1000 →
    Ev E Tryz.f149 [⟨.str, digsF f u ++ s⟩] 0 (rdigits_C0 u s) := by
  intro f
  induction f with
  | zero => intro u s h; omega
  | succ f ih =>
    intro u s h1 h2 h3 h4 h5
    refine rdigits_s0 ?_
    simp only [rdigits_t0, List.map_cons, List.map_nil, List.length_singleton]
    rw [dT (show 1 + s.length ≤ maxStr by rw [ms]; omega)]
    unfold digsF
    by_cases hu : u < 10
    · rw [dF (by omega), cond_false, cond_true, if_pos hu, dg_eq (by omega) (by omega), Int.toNat_natCast]
    · rw [dT (by omega), cond_true, show (!((10 : Int) == 0)) = true from rfl, cond_true, cond_true, cond_true, if_neg hu]
      have e1 : Int.tmod (u : Int) 10 = ((u % 10 : Nat) : Int) := rfl
      have e2 : Int.tdiv (u : Int) 10 = ((u / 10 : Nat) : Int) := rfl
      rw [e1, e2, dg_eq (by omega) (by omega), u64_id (by omega) (by omega), Int.toNat_natCast]
      have h10 : 10 ^ (f + 1) = 10 * 10 ^ f := by rw [Nat.pow_succ, Nat.mul_comm]
      have hf : 1 ≤ f := by
        rcases Nat.eq_zero_or_pos f with rfl | h
        · omega
        · exact h
      have := Gr_of (ih (u / 10) ([dg (u % 10)] ++ s) hf (by omega) (by omega) (by simp; omega) (by simp; omega))
      rw [← List.append_assoc] at this
      exact this
theorem rdigits_ok : FnOk E rdigits_id rdigits_W := rdigits_ok_of fun u hk => by
  have hk : 0 ≤ u ∧ u < 18446744073709551616 := by simpa [okU] using hk
  obtain ⟨n, rfl⟩ : ∃ n : Nat, u = n := ⟨u.toNat, by omega⟩
  simp only [rdigits_t, digitsV, Int.toNat_natCast, digs]
  have := Gr_of (rdigits_0 20 n [] (by omega) (by have : (10 : Nat) ^ 20 = 100000000000000000000 := by decide
                                                  omega) (by omega) (by simp) (by simp))
  rw [List.append_nil] at this
  exact this
def okI (n : Int) : Bool := decide (-9223372036854775808 ≤ n ∧ n ≤ 9223372036854775807)
noncomputable def rtext_W : FnW E := fn1 (E := E) .int .str okI textV
def rtext_id : FuncId := 106
noncomputable def rtext_O : Oracle E := orac [(149, rdigits_W)] [] [] []
noncomputable def rtext_H : Hint E := Hint.mk [] [] [] [] []
noncomputable def rtext_t (_G : Nat → ASt E → Option (List (TV E))) (x0 : Int) : Option (List (TV E)) :=
  bif (decide (x0 < (0 : Int))) then (bif (okU (IntKind.wrap .u64 ((0 : Int) - (IntKind.wrap .u64 x0)))) then (bif (decide (([45] : List UInt8).length + (digitsV (IntKind.wrap .u64 ((0 : Int) - (IntKind.wrap .u64 x0)))).length ≤ maxStr)) then some [⟨.str, (([45] : List UInt8) ++ (digitsV (IntKind.wrap .u64 ((0 : Int) - (IntKind.wrap .u64 x0)))))⟩] else none) else none) else (bif (okU (IntKind.wrap .u64 x0)) then some [⟨.str, (digitsV (IntKind.wrap .u64 x0))⟩] else none)
theorem rtext_e (G : Nat → ASt E → Option (List (TV E))) (x0 : Int) : runE rtext_O rtext_H G Tryz.f106 [⟨.int, x0⟩] = rtext_t G x0 := by kernel_rfl
theorem rtext_f : Tryz.prog.funcs[106]? = some Tryz.f106 := by kernel_rfl
theorem rtext_n : (Tryz.f106.name == "runtime.NumGoroutine") = false := by kernel_rfl
theorem rtext_b : Tryz.f106.body.isNone = false := by kernel_rfl
theorem rtext_hO : OracleOk E rtext_O := orac_ok (.cons rdigits_ok .nil) .nil .nil .nil
theorem rtext_ok_of (h : ∀ (x0 : Int), okI x0 = true → rtext_t (Gr E Tryz.f106 [⟨.str, textV x0⟩]) x0 = some [⟨.str, textV x0⟩]) : FnOk E rtext_id rtext_W := fn1_ok rtext_hO mix rtext_f rtext_n rtext_b (fun x0 hk => (rtext_e _ x0).trans (h x0 hk))
theorem rtext_ok : FnOk E rtext_id rtext_W := rtext_ok_of fun n hk => by
  have hk : -9223372036854775808 ≤ n ∧ n ≤ 9223372036854775807 := by simpa [okI] using hk
  simp only [rtext_t, textV]
  by_cases h : n < 0
  · have e : IntKind.wrap .u64 ((0 : Int) - IntKind.wrap .u64 n) = -n := by rw [wu64, wu64]; omega
    have hl : (digitsV (-n)).length ≤ 20 := digsF_len 20 _
    have ho : okU (-n) = true := by simp [okU]; omega
    rw [dT h, e]
    simp only [cond_true, ho]
    rw [dT (show [(45 : UInt8)].length + (digitsV (-n)).length ≤ maxStr by rw [ms, List.length_singleton]; omega)]
    rfl
  · have ho : okU n = true := by simp [okU]; omega
    have e : IntKind.wrap .u64 n = n := u64_id (by omega) (by omega)
    rw [dF h, e]
    simp only [cond_false, ho, cond_true]
    rfl
def isD (c : UInt8) : Bool := decide (48 ≤ c.toNat) && decide (c.toNat ≤ 57)
def lead0 (s : List UInt8) : Bool := match s with
  | [] => true
  | [_] => false
  | c :: _ => c == 48
def wholeB (s : List UInt8) : Bool := !(lead0 s) && s.all isD
def okL1 (s : List UInt8) : Bool := decide (s.length ≤ 1000000)
theorem okL1_iff {s : List UInt8} : okL1 s = true ↔ s.length ≤ 1000000 := by simp [okL1]
noncomputable def rwhole_W : FnW E := fn1 (E := E) .str .bool okL1 wholeB
def rwhole_id : FuncId := 133
noncomputable def rwhole_O : Oracle E := orac [] [] [] []
noncomputable def rwhole_H : Hint E := Hint.mk [(0, [0, 3])] [] [] [] []
noncomputable def rwhole_C0 (v0 : List UInt8) (v1 : Int) : ASt E := ASt.mk 33 [(0, .d (.str v0)), (3, .d (.int .i64 v1))] [] 0
noncomputable def rwhole_t (G : Nat → ASt E → Option (List (TV E))) (x0 : List UInt8) : Option (List (TV E)) :=
  bif ((decide ((0 : Int) ≤ (0 : Int)) && decide ((0 : Int) < (x0.length : Int))) || !((!((x0.length : Int) == (0 : Int))) && (decide ((1 : Int) < (x0.length : Int))))) then (bif (bif ((x0.length : Int) == (0 : Int)) then true else (bif (decide ((1 : Int) < (x0.length : Int))) then ((((List.getD x0 (Int.toNat 0) 0).toNat : Nat) : Int) == (48 : Int)) else false)) then some [⟨.bool, false⟩] else G 0 (rwhole_C0 x0 0)) else none
theorem rwhole_e (G : Nat → ASt E → Option (List (TV E))) (x0 : List UInt8) : runE rwhole_O rwhole_H G Tryz.f133 [⟨.str, x0⟩] = rwhole_t G x0 := by kernel_rfl
noncomputable def rwhole_t0 (G : Nat → ASt E → Option (List (TV E))) (v0 : List UInt8) (v1 : Int) : Option (List (TV E)) :=
  bif (decide (v1 < (v0.length : Int))) then (bif (decide ((0 : Int) ≤ v1) && decide (v1 < (v0.length : Int))) then (bif ((decide ((0 : Int) ≤ v1) && decide (v1 < (v0.length : Int))) || !(!(decide ((((List.getD v0 (Int.toNat v1) 0).toNat : Nat) : Int) < (48 : Int))))) then (bif (bif (decide ((((List.getD v0 (Int.toNat v1) 0).toNat : Nat) : Int) < (48 : Int))) then true else (decide ((57 : Int) < (((List.getD v0 (Int.toNat v1) 0).toNat : Nat) : Int)))) then some [⟨.bool, false⟩] else G 0 (rwhole_C0 v0 (w64 (v1 + (1 : Int))))) else none) else none) else some [⟨.bool, true⟩]
theorem rwhole_l0 (G : Nat → ASt E → Option (List (TV E))) (v0 : List UInt8) (v1 : Int) : runL rwhole_O rwhole_H G Tryz.f133 0 (rwhole_C0 v0 v1) = rwhole_t0 G v0 v1 := by kernel_rfl
theorem rwhole_f : Tryz.prog.funcs[133]? = some Tryz.f133 := by kernel_rfl
theorem rwhole_n : (Tryz.f133.name == "runtime.NumGoroutine") = false := by kernel_rfl
theorem rwhole_b : Tryz.f133.body.isNone = false := by kernel_rfl
theorem rwhole_hO : OracleOk E rwhole_O := orac_ok .nil .nil .nil .nil
theorem rwhole_s0 {res : List (TV E)} {v0 : List UInt8} {v1 : Int} (h : rwhole_t0 (Gr E Tryz.f133 res) v0 v1 = some res) : Ev E Tryz.f133 res 0 (rwhole_C0 v0 v1) := Ev.step rwhole_hO mix ((rwhole_l0 _ v0 v1).trans h)
theorem rwhole_ok_of (h : ∀ (x0 : List UInt8), okL1 x0 = true → rwhole_t (Gr E Tryz.f133 [⟨.bool, wholeB x0⟩]) x0 = some [⟨.bool, wholeB x0⟩]) : FnOk E rwhole_id rwhole_W := fn1_ok rwhole_hO mix rwhole_f rwhole_n rwhole_b (fun x0 hk => (rwhole_e _ x0).trans (h x0 hk))
theorem bad1_eq (c : UInt8) : (bif decide ((c.toNat : Int) < 48) then true else decide (57 < (c.toNat : Int))) = !(isD c) := by
  unfold isD
  by_cases h1 : c.toNat < 48
  · rw [dT (by omega), dF (show ¬ 48 ≤ c.toNat by omega)]; rfl
  · by_cases h2 : 57 < c.toNat
    · rw [dF (by omega), dT (by omega), dT (show 48 ≤ c.toNat by omega), dF (by omega)]; rfl
    · rw [dF (by omega), dF (by omega), dT (show 48 ≤ c.toNat by omega), dT (by omega)]; rfl
theorem rwhole_0 (s : List UInt8) (hs : s.length ≤ 1000000) : ∀ (m i : Nat), s.length - i = m → i ≤ s.length →
    Ev E Tryz.f133 [⟨.bool, (s.drop i).all isD⟩] 0 (rwhole_C0 s i) := by
  intro m
  induction m with
  | zero =>
    intro i  h1 h2
    refine rwhole_s0 ?_
    simp only [rwhole_t0, dge (show s.length ≤ i by omega), cond_false, List.drop_eq_nil_of_le (show s.length ≤ i by omega)]
    rfl
  | succ m ih2 =>
    intro i  h1 h2
    have hi : i < s.length := by omega
    have e3 : w64 ((i : Int) + 1) = ((i + 1 : Nat) : Int) := by rw [w64_id (by omega) (by omega)]; omega
    refine rwhole_s0 ?_
    simp only [rwhole_t0, dlt hi, d0, gd s _ i hi, e3, Bool.and_self, Bool.true_or, cond_true, bad1_eq]
    rw [← List.getElem_cons_drop hi]
    rw [List.all_cons]
    cases isD s[i] with
    | false => rfl
    | true => exact Gr_of (ih2 (i + 1) (by omega) (by omega))
theorem c48 (c : UInt8) : ((c.toNat : Int) == (48 : Int)) = (c == 48) := by
  by_cases h : c = 48
  · subst h; rfl
  · rw [eqF (fun e => h (UInt8.toNat_inj.1 (show c.toNat = 48 by have e : (c.toNat : Int) = 48 := e; omega)))]
    simpa using h
theorem rwhole_ok : FnOk E rwhole_id rwhole_W := rwhole_ok_of fun s hk => by
  have hs := okL1_iff.1 hk
  have := Gr_of (rwhole_0 s hs s.length 0 (by omega) (by omega))
  rw [List.drop_zero] at this
  unfold wholeB
  simp only [rwhole_t]
  match s, hs, this with
  | [], _, _ => rfl
  | [c], _, this => exact this
  | c :: d :: t, hs, this =>
    have e1 : ((((c :: d :: t).length : Nat) : Int) == 0) = false := eqF (by simp only [List.length_cons]; omega)
    have e2 : decide ((1 : Int) < ((c :: d :: t).length : Int)) = true := dT (by simp only [List.length_cons]; omega)
    have e3 : decide ((0 : Int) < ((c :: d :: t).length : Int)) = true := dT (by simp only [List.length_cons]; omega)
    have e4 : List.getD (c :: d :: t) (Int.toNat 0) 0 = c := rfl
    simp only [e1, e2, e3, e4, c48, lead0, Bool.not_false, cond_false, cond_true]
    cases c == 48 with
    | true => rfl
    | false => exact this
def valN : List UInt8 → Nat → Nat
  | [], n => n
  | c :: t, n => valN t (n * 10 + (c.toNat - 48))
theorem valN_ge : ∀ (s : List UInt8) (n : Nat), n ≤ valN s n
  | [], n => Nat.le_refl _
  | c :: t, n => Nat.le_trans (by omega) (valN_ge t (n * 10 + (c.toNat - 48)))
theorem isD_iff {c : UInt8} : isD c = true ↔ 48 ≤ c.toNat ∧ c.toNat ≤ 57 := by simp [isD]
def satV (n : Nat) : Int := bif decide (n < 72057594037927936) then (n : Int) else 1152921504606846976
theorem satV_lt {n : Nat} (h : n < 72057594037927936) : satV n = n := by unfold satV; rw [dT h]; rfl
theorem satV_ge {n : Nat} (h : ¬ n < 72057594037927936) : satV n = 1152921504606846976 := by unfold satV; rw [dF h]; rfl
def rvalueV (s : List UInt8) : Int := satV (valN s 0)
def okD (s : List UInt8) : Bool := decide (s.length ≤ 1000000) && s.all isD
theorem okD_iff {s : List UInt8} : okD s = true ↔ s.length ≤ 1000000 ∧ s.all isD = true := by simp [okD]
noncomputable def rvalue_W : FnW E := fn1 (E := E) .str .int okD rvalueV
def rvalue_id : FuncId := 134
noncomputable def rvalue_O : Oracle E := orac [] [] [] []
noncomputable def rvalue_H : Hint E := Hint.mk [(0, [0, 3, 4])] [] [] [] []
noncomputable def rvalue_C0 (v0 : List UInt8) (v1 v2 : Int) : ASt E := ASt.mk 22 [(0, .d (.str v0)), (3, .d (.int .i64 v1)), (4, .d (.int .i64 v2))] [] 0
noncomputable def rvalue_t (G : Nat → ASt E → Option (List (TV E))) (x0 : List UInt8) : Option (List (TV E)) :=
  G 0 (rvalue_C0 x0 0 0)
theorem rvalue_e (G : Nat → ASt E → Option (List (TV E))) (x0 : List UInt8) : runE rvalue_O rvalue_H G Tryz.f134 [⟨.str, x0⟩] = rvalue_t G x0 := by kernel_rfl
noncomputable def rvalue_t0 (G : Nat → ASt E → Option (List (TV E))) (v0 : List UInt8) (v1 v2 : Int) : Option (List (TV E)) :=
  bif (decide (v2 < (v0.length : Int))) then (bif (decide ((0 : Int) ≤ v2) && decide (v2 < (v0.length : Int))) then (bif (decide ((72057594037927936 : Int) ≤ (w64 ((w64 ((w64 (v1 * (10 : Int))) + (w64 (((List.getD v0 (Int.toNat v2) 0).toNat : Nat) : Int)))) - (48 : Int))))) then some [⟨.int, (1152921504606846976 : Int)⟩] else G 0 (rvalue_C0 v0 (w64 ((w64 ((w64 (v1 * (10 : Int))) + (w64 (((List.getD v0 (Int.toNat v2) 0).toNat : Nat) : Int)))) - (48 : Int))) (w64 (v2 + (1 : Int))))) else none) else some [⟨.int, v1⟩]
theorem rvalue_l0 (G : Nat → ASt E → Option (List (TV E))) (v0 : List UInt8) (v1 v2 : Int) : runL rvalue_O rvalue_H G Tryz.f134 0 (rvalue_C0 v0 v1 v2) = rvalue_t0 G v0 v1 v2 := by kernel_rfl
theorem rvalue_f : Tryz.prog.funcs[134]? = some Tryz.f134 := by kernel_rfl
theorem rvalue_n : (Tryz.f134.name == "runtime.NumGoroutine") = false := by kernel_rfl
theorem rvalue_b : Tryz.f134.body.isNone = false := by kernel_rfl
theorem rvalue_hO : OracleOk E rvalue_O := orac_ok .nil .nil .nil .nil
theorem rvalue_s0 {res : List (TV E)} {v0 : List UInt8} {v1 v2 : Int} (h : rvalue_t0 (Gr E Tryz.f134 res) v0 v1 v2 = some res) : Ev E Tryz.f134 res 0 (rvalue_C0 v0 v1 v2) := Ev.step rvalue_hO mix ((rvalue_l0 _ v0 v1 v2).trans h)
theorem rvalue_ok_of (h : ∀ (x0 : List UInt8), okD x0 = true → rvalue_t (Gr E Tryz.f134 [⟨.int, rvalueV x0⟩]) x0 = some [⟨.int, rvalueV x0⟩]) : FnOk E rvalue_id rvalue_W := fn1_ok rvalue_hO mix rvalue_f rvalue_n rvalue_b (fun x0 hk => (rvalue_e _ x0).trans (h x0 hk))
theorem rvalue_0 (s : List UInt8) (hs : s.length ≤ 1000000) (hd : s.all isD = true) : ∀ (m i : Nat) (n : Nat), s.length - i = m → i ≤ s.length → n < 72057594037927936 →
    Ev E Tryz.f134 [⟨.int, satV (valN (s.drop i) n)⟩] 0 (rvalue_C0 s n i) := by
  intro m
  induction m with
  | zero =>
    intro i n h1 h2 h3
    refine rvalue_s0 ?_
    simp only [rvalue_t0, dge (show s.length ≤ i by omega), cond_false, List.drop_eq_nil_of_le (show s.length ≤ i by omega)]
    simp only [valN, satV_lt h3]
  | succ m ih2 =>
    intro i n h1 h2 h3
    have hi : i < s.length := by omega
    have e3 : w64 ((i : Int) + 1) = ((i + 1 : Nat) : Int) := by rw [w64_id (by omega) (by omega)]; omega
    refine rvalue_s0 ?_
    simp only [rvalue_t0, dlt hi, d0, gd s _ i hi, e3, Bool.and_self, Bool.true_or, cond_true]
    rw [← List.getElem_cons_drop hi]
    have hc := isD_iff.1 (List.all_eq_true.1 hd _ (List.getElem_mem hi))
    have e4 : w64 (w64 (w64 ((n : Int) * 10) + w64 ((s[i].toNat : Int))) - 48) = ((n * 10 + (s[i].toNat - 48) : Nat) : Int) := by
      rw [w64_id (n := (n : Int) * 10) (by omega) (by omega), w64_id (n := (s[i].toNat : Int)) (by omega) (by omega), w64_id (n := (n : Int) * 10 + _) (by omega) (by omega), w64_id (by omega) (by omega)]
      omega
    rw [e4]
    simp only [valN]
    by_cases hn : 72057594037927936 ≤ n * 10 + (s[i].toNat - 48)
    · have := valN_ge (s.drop (i + 1)) (n * 10 + (s[i].toNat - 48))
      rw [dT (by omega), cond_true, satV_ge (by omega)]
    · rw [dF (by omega), cond_false]
      exact Gr_of (ih2 (i + 1) _ (by omega) (by omega) (by omega))
theorem rvalue_ok : FnOk E rvalue_id rvalue_W := rvalue_ok_of fun s hk => by
  obtain ⟨hs, hd⟩ := okD_iff.1 hk
  have := Gr_of (rvalue_0 s hs hd s.length 0 0 (by omega) (by omega) (by omega))
  rw [List.drop_zero] at this
  exact this
def overP (most : Int) (n : Nat) : Int × Int := bif decide (most < (n : Int)) then (0, 9) else ((n : Int), 0)
theorem overP_lt {most : Int} {n : Nat} (h : most < (n : Int)) : overP most n = (0, 9) := by unfold overP; rw [dT h]; rfl
theorem overP_ge {most : Int} {n : Nat} (h : ¬ most < (n : Int)) : overP most n = ((n : Int), 0) := by unfold overP; rw [dF h]; rfl
def cntP (s : List UInt8) (most : Int) : Int × Int := bif !(wholeB s) then (0, 3) else overP most (valN s 0)
def cntV (s : List UInt8) (most : Int) : Int := (cntP s most).1
def cntE (s : List UInt8) (most : Int) : Int := (cntP s most).2
def okW (s : List UInt8) (most : Int) : Bool := decide (s.length ≤ 1000000) && decide (0 ≤ most) && decide (most ≤ 9223372036854775807)
theorem okW_iff {s : List UInt8} {most : Int} : okW s most = true ↔ (s.length ≤ 1000000 ∧ 0 ≤ most) ∧ most ≤ 9223372036854775807 := by simp [okW]
theorem cnt_bd (s : List UInt8) (most : Int) (h : 0 ≤ most) : 0 ≤ cntV s most ∧ cntV s most ≤ most := by
  unfold cntV cntP
  cases wholeB s with
  | false => exact ⟨Int.le_refl _, h⟩
  | true =>
    simp only [Bool.not_true, cond_false]
    by_cases hv : most < (valN s 0 : Int)
    · rw [overP_lt hv]; exact ⟨Int.le_refl _, h⟩
    · rw [overP_ge hv]; exact ⟨Int.natCast_nonneg _, by simp only; omega⟩
noncomputable def rcount_W : FnW E := fn22 (E := E) .str .int .int .api_Errno okW cntV cntE
def rcount_id : FuncId := 87
noncomputable def rcount_O : Oracle E := orac [(133, rwhole_W)] [] [] []
noncomputable def rcount_H : Hint E := Hint.mk [(0, [0, 1, 6, 7])] [] [] [] []
noncomputable def rcount_C0 (v0 : List UInt8) (v1 v2 v3 : Int) : ASt E := ASt.mk 36 [(0, .d (.str v0)), (1, .d (.int .i64 v1)), (6, .d (.int .u64 v2)), (7, .d (.int .i64 v3))] [] 0
noncomputable def rcount_t (G : Nat → ASt E → Option (List (TV E))) (x0 : List UInt8) (x1 : Int) : Option (List (TV E)) :=
  bif (decide (x1 < (0 : Int))) then some [⟨.int, (0 : Int)⟩, ⟨.api_Errno, (2 : Int)⟩] else (bif (okL1 x0) then (bif (!(wholeB x0)) then some [⟨.int, (0 : Int)⟩, ⟨.api_Errno, (3 : Int)⟩] else (bif (decide ((19 : Int) < (x0.length : Int))) then some [⟨.int, (0 : Int)⟩, ⟨.api_Errno, (9 : Int)⟩] else G 0 (rcount_C0 x0 x1 0 0))) else none)
theorem rcount_e (G : Nat → ASt E → Option (List (TV E))) (x0 : List UInt8) (x1 : Int) : runE rcount_O rcount_H G Tryz.f87 [⟨.str, x0⟩, ⟨.int, x1⟩] = rcount_t G x0 x1 := by kernel_rfl
noncomputable def rcount_t0 (G : Nat → ASt E → Option (List (TV E))) (v0 : List UInt8) (v1 v2 v3 : Int) : Option (List (TV E)) :=
  bif (decide (v3 < (v0.length : Int))) then (bif (decide ((0 : Int) ≤ v3) && decide (v3 < (v0.length : Int))) then G 0 (rcount_C0 v0 v1 (IntKind.wrap .u64 ((IntKind.wrap .u64 ((IntKind.wrap .u64 (v2 * (10 : Int))) + (IntKind.wrap .u64 (((List.getD v0 (Int.toNat v3) 0).toNat : Nat) : Int)))) - (48 : Int))) (w64 (v3 + (1 : Int)))) else none) else (bif (decide ((IntKind.wrap .u64 v1) < v2)) then some [⟨.int, (0 : Int)⟩, ⟨.api_Errno, (9 : Int)⟩] else some [⟨.int, (w64 v2)⟩, ⟨.api_Errno, (0 : Int)⟩])
theorem rcount_l0 (G : Nat → ASt E → Option (List (TV E))) (v0 : List UInt8) (v1 v2 v3 : Int) : runL rcount_O rcount_H G Tryz.f87 0 (rcount_C0 v0 v1 v2 v3) = rcount_t0 G v0 v1 v2 v3 := by kernel_rfl
theorem rcount_f : Tryz.prog.funcs[87]? = some Tryz.f87 := by kernel_rfl
theorem rcount_n : (Tryz.f87.name == "runtime.NumGoroutine") = false := by kernel_rfl
theorem rcount_b : Tryz.f87.body.isNone = false := by kernel_rfl
theorem rcount_hO : OracleOk E rcount_O := orac_ok (.cons rwhole_ok .nil) .nil .nil .nil
theorem rcount_s0 {res : List (TV E)} {v0 : List UInt8} {v1 v2 v3 : Int} (h : rcount_t0 (Gr E Tryz.f87 res) v0 v1 v2 v3 = some res) : Ev E Tryz.f87 res 0 (rcount_C0 v0 v1 v2 v3) := Ev.step rcount_hO mix ((rcount_l0 _ v0 v1 v2 v3).trans h)
theorem rcount_ok_of (h : ∀ (x0 : List UInt8) (x1 : Int), okW x0 x1 = true → rcount_t (Gr E Tryz.f87 [⟨.int, cntV x0 x1⟩, ⟨.api_Errno, cntE x0 x1⟩]) x0 x1 = some [⟨.int, cntV x0 x1⟩, ⟨.api_Errno, cntE x0 x1⟩]) : FnOk E rcount_id rcount_W := fn22_ok rcount_hO mix rcount_f rcount_n rcount_b (fun x0 x1 hk => (rcount_e _ x0 x1).trans (h x0 x1 hk))
theorem pow_le19 {k : Nat} (h : k ≤ 19) : 10 ^ k ≤ 10000000000000000000 := by
  have := Nat.pow_le_pow_right (show 0 < 10 by omega) h
  have e : (10 : Nat) ^ 19 = 10000000000000000000 := by decide
  omega
theorem rcount_0 (s : List UInt8) (most : Int) (hm : 0 ≤ most ∧ most ≤ 9223372036854775807) (hs : s.length ≤ 19) (hd : s.all isD = true) : ∀ (m i : Nat) (n : Nat), s.length - i = m → i ≤ s.length → (n + 1) * 10 ^ (s.length - i) ≤ 10000000000000000000 →
    Ev E Tryz.f87 [⟨.int, (overP most (valN (s.drop i) n)).1⟩, ⟨.api_Errno, (overP most (valN (s.drop i) n)).2⟩] 0 (rcount_C0 s most n i) := by
  intro m
  induction m with
  | zero =>
    intro i n h1 h2 h3
    refine rcount_s0 ?_
    simp only [rcount_t0, dge (show s.length ≤ i by omega), cond_false, List.drop_eq_nil_of_le (show s.length ≤ i by omega)]
    have e0 : s.length - i = 0 := by omega
    rw [e0] at h3
    rw [u64_id (by omega) (by omega)]
    simp only [valN]
    by_cases h : most < (n : Int)
    · rw [dT h, overP_lt h]; rfl
    · rw [dF h, overP_ge h, w64_id (by omega) (by omega)]; rfl
  | succ m ih2 =>
    intro i n h1 h2 h3
    have hi : i < s.length := by omega
    have e3 : w64 ((i : Int) + 1) = ((i + 1 : Nat) : Int) := by rw [w64_id (by omega) (by omega)]; omega
    refine rcount_s0 ?_
    simp only [rcount_t0, dlt hi, d0, gd s _ i hi, e3, Bool.and_self, Bool.true_or, cond_true]
    rw [← List.getElem_cons_drop hi]
    have hc := isD_iff.1 (List.all_eq_true.1 hd _ (List.getElem_mem hi))
    have ep : s.length - i = (s.length - (i + 1)) + 1 := by omega
    have hpow : 1 ≤ 10 ^ (s.length - (i + 1)) := Nat.one_le_pow _ _ (by omega)
    rw [ep, Nat.pow_succ, Nat.mul_comm (10 ^ _) 10, ← Nat.mul_assoc] at h3
    have h5 : (n * 10 + (s[i].toNat - 48) + 1) * 10 ^ (s.length - (i + 1)) ≤ (n + 1) * 10 * 10 ^ (s.length - (i + 1)) := Nat.mul_le_mul_right _ (by omega)
    have h6 : (n + 1) * 10 ≤ 10000000000000000000 := Nat.le_trans (Nat.le_mul_of_pos_right _ hpow) h3
    have e4 : IntKind.wrap .u64 (IntKind.wrap .u64 (IntKind.wrap .u64 ((n : Int) * 10) + IntKind.wrap .u64 ((s[i].toNat : Int))) - 48) = ((n * 10 + (s[i].toNat - 48) : Nat) : Int) := by
      rw [u64_id (n := (n : Int) * 10) (by omega) (by omega), u64_id (n := (s[i].toNat : Int)) (by omega) (by omega), u64_id (n := (n : Int) * 10 + _) (by omega) (by omega), u64_id (by omega) (by omega)]
      omega
    rw [e4]
    simp only [valN]
    exact Gr_of (ih2 (i + 1) _ (by omega) (by omega) (by omega))
theorem valN_big : ∀ (s : List UInt8) (n : Nat), n * 10 ^ s.length ≤ valN s n
  | [], n => by simp [valN]
  | c :: t, n => by
    have := valN_big t (n * 10 + (c.toNat - 48))
    unfold valN
    refine Nat.le_trans ?_ this
    rw [List.length_cons, Nat.pow_succ, Nat.mul_comm (10 ^ t.length) 10, ← Nat.mul_assoc]
    exact Nat.mul_le_mul_right _ (by omega)
theorem whole_big {s : List UInt8} (h : wholeB s = true) (hl : 19 < s.length) : 10000000000000000000 ≤ valN s 0 := by
  match s, h, hl with
  | [], _, hl => simp at hl
  | [_], _, hl => simp at hl
  | c :: d :: t, h, hl =>
    simp only [wholeB, lead0, Bool.and_eq_true, List.all_cons, Bool.not_eq_true'] at h
    have hc := isD_iff.1 h.2.1
    have h48 : c.toNat ≠ 48 := fun e => by
      have : c = 48 := UInt8.toNat_inj.1 e
      subst this; exact absurd h.1 (by decide)
    have h1 := valN_big (d :: t) (0 * 10 + (c.toNat - 48))
    have h2 : 10 ^ 19 ≤ 10 ^ (d :: t).length := Nat.pow_le_pow_right (by omega) (by simp only [List.length_cons] at hl ⊢; omega)
    have e : (10 : Nat) ^ 19 = 10000000000000000000 := by decide
    have h3 : 1 * 10 ^ (d :: t).length ≤ (0 * 10 + (c.toNat - 48)) * 10 ^ (d :: t).length := Nat.mul_le_mul_right _ (by omega)
    show 10000000000000000000 ≤ valN (d :: t) (0 * 10 + (c.toNat - 48))
    omega
theorem rcount_ok : FnOk E rcount_id rcount_W := rcount_ok_of fun s most hk => by
  obtain ⟨⟨hs, h0⟩, h1⟩ := okW_iff.1 hk
  have ho : okL1 s = true := okL1_iff.2 hs
  simp only [rcount_t, dF (show ¬ most < 0 by omega), cond_false, ho, cond_true, cntV, cntE, cntP]
  cases hw : wholeB s with
  | false => rfl
  | true =>
    simp only [Bool.not_true, cond_false]
    by_cases hl : (19 : Int) < (s.length : Int)
    · have := whole_big hw (by omega)
      rw [dT hl, overP_lt (show most < (valN s 0 : Int) by omega)]; rfl
    · rw [dF hl, cond_false]
      have hd : s.all isD = true := by simp only [wholeB, Bool.and_eq_true] at hw; exact hw.2
      have hp := pow_le19 (show s.length ≤ 19 by omega)
      have := Gr_of (rcount_0 s most ⟨h0, h1⟩ (by omega) hd s.length 0 0 (by omega) (by omega) (by rw [Nat.zero_add, Nat.one_mul, Nat.sub_zero]; exact hp))
      rw [List.drop_zero] at this
      exact this
theorem enc_str {w : World} {ro : Nat → Nat → Prop} {u : Value} {x : List UInt8} (h : DRep E w ro u (.str x)) : u = encStr x := by cases h; rfl
theorem row_strs {w : World} {ro : Nat → Nat → Prop} {xs : List Value} {l : List (List UInt8)} (hl : xs.length = l.length) (h : RowD E w ro .str xs l) : xs = l.map encStr := by
  apply List.ext_getElem?
  intro i
  by_cases hi : i < l.length
  · obtain ⟨u, hu, hd⟩ := h i l[i] 0 (.str l[i]) (List.getElem?_eq_getElem hi) rfl
    have hu : xs[i * 1 + 0]? = some u := hu
    rw [Nat.mul_one, Nat.add_zero] at hu
    rw [hu, enc_str hd]
    simp [hi]
  · rw [List.getElem?_eq_none (by omega), List.getElem?_eq_none (by simp; omega)]
theorem strs_row {w : World} {ro : Nat → Nat → Prop} (l : List (List UInt8)) : RowD E w ro .str (l.map encStr) l := by
  intro i x j c hx hc
  have hc : ([.str x] : List (DVal E.Den))[j]? = some c := hc
  cases j with
  | zero =>
    simp at hc
    subst hc
    refine ⟨encStr x, ?_, .str x⟩
    show (l.map encStr)[i * 1 + 0]? = some (encStr x)
    rw [Nat.mul_one, Nat.add_zero, List.getElem?_map, show l[i]? = some x from hx]
    rfl
  | succ j => simp at hc
def okSort (l : List (List UInt8)) : Bool := decide (l.length ≤ 1000000)
noncomputable def sort_M : FnM E := mut0 (E := E) .str false okSort Pl.msort
def sort_mid : FuncId := 157
theorem sort_mex : ∃ fn, Tryz.prog.funcs[sort_mid]? = some fn ∧ (fn.name == "runtime.NumGoroutine") = false ∧ fn.body.isNone = false := ⟨Tryz.f157, by kernel_rfl, by kernel_rfl, by kernel_rfl⟩
noncomputable def compact_M : FnM E := mut0 (E := E) .str true okSort Lib.compact
def compact_mid : FuncId := 158
theorem compact_mex : ∃ fn, Tryz.prog.funcs[compact_mid]? = some fn ∧ (fn.name == "runtime.NumGoroutine") = false ∧ fn.body.isNone = false := ⟨Tryz.f158, by kernel_rfl, by kernel_rfl, by kernel_rfl⟩
theorem msort_nil : Pl.msort [] = [] := by simp [Pl.msort]
theorem sort_mok : MutOk E sort_mid sort_M := by
  refine ⟨sort_mex, fun t l rest back l' h => ?_⟩
  obtain ⟨l, e1, hr, hb, hok, e2⟩ := mut0_inv h
  cases e1
  cases e2
  subst hr; subst hb
  have hok : okSort l = true := hok
  simp only [okSort, decide_eq_true_eq] at hok
  intro w ro gh xs vals hn hge hgs hown hrow hnro hargs hrolt
  match vals, hargs with
  | [], _ =>
  have hlen : (Pl.msort l).length = l.length := Pl.msort_len l
  rcases hown with ⟨hown, hblk⟩ | ⟨h0, hxs, hblk, ad, hv⟩
  · have hx1 : xs.length = l.length := by rw [hown.1, hgs, hn]; show l.length * 1 = _; omega
    have hxs := row_strs hx1 hrow
    rcases hown.2 with ⟨hnil, hn0⟩ | ⟨g, cap, cur, hgv, hbase, hb, h1, h2, h3, h4⟩
    · have hl0 : l = [] := List.eq_nil_of_length_eq_zero (by omega)
      subst hl0
      rw [hnil, msort_nil]
      refine (Tryz.slices_Sort_string_none none 0 w).mono fun e w' he => ?_
      obtain ⟨rfl, rfl⟩ := he
      refine ⟨_, gh, [], rfl, ⟨rfl, rfl, rfl, Nat.le_refl _, fun _ _ _ => rfl⟩, hn, hge, hgs, .inl ⟨?_, hblk⟩, strs_row [], fun g hg => .inl hg, (fun h => by cases h), fun _ => rfl⟩
      rw [hnil, hn0]
      exact World.ownsRow_nil _ 0 _ _
    · rw [hgv, hn]
      rw [hge] at hb
      have hsz : gh.sz = 1 := hgs
      rw [hsz, Nat.mul_one] at h3
      rw [hsz, Nat.mul_one, hn, hxs] at h4
      refine (Tryz.slices_Sort_string g 0 cap l w (holds_of_block hb h4) (Array.getElem?_eq_some_iff.1 hb).1 (by omega)).mono fun e w' he => ?_
      obtain ⟨rfl, n, os, rfl⟩ := he
      have hg2 : gh.blk = some g := by rw [hblk, hgv]; rfl
      refine ⟨_, gh, (Pl.msort l).map encStr, rfl, by rw [hg2]; exact grownBy_sorted _, by rw [hlen]; exact hn, hge, hgs, .inl ⟨?_, hblk⟩, strs_row _, fun g hg => .inl hg, (fun h => by cases h), fun _ => rfl⟩
      rw [hgv, hn, hge, hsz]
      exact ownsRow_sorted (ts := Pl.msort l) hlen (Nat.zero_le _) hb (by omega) h2 (by rw [h3, Nat.mul_one])
  · have hl0 : l = [] := List.eq_nil_of_length_eq_zero (by omega)
    subst hl0
    rw [hv, msort_nil]
    refine (Tryz.slices_Sort_string_none ad 0 w).mono fun e w' he => ?_
    obtain ⟨rfl, rfl⟩ := he
    exact ⟨_, gh, [], rfl, ⟨rfl, rfl, rfl, Nat.le_refl _, fun _ _ _ => rfl⟩, hn, hge, hgs, .inr ⟨h0, rfl, hblk, ad, hv⟩, strs_row [], fun g hg => .inl hg, (fun h => by cases h), fun _ => rfl⟩
theorem ownsRow_prefix {w : World} {base g cap n m : Nat} {e : TypeId} {xs : List Value} (h : w.ownsRow base e 1 (.slice (some ⟨g, 0, none⟩) n cap) n xs) (hm : m ≤ n) : w.ownsRow base e 1 (.slice (some ⟨g, 0, none⟩) m cap) m (xs.take m) := by
  obtain ⟨h1, h2⟩ := h
  refine ⟨by rw [List.length_take]; omega, .inr ?_⟩
  rcases h2 with ⟨h2, _⟩ | ⟨g', cap', cur, h2, h3, h4, h5, h6, h7, h8⟩
  · cases h2
  · cases h2
    exact ⟨g, cap, cur, rfl, h3, h4, by omega, h6, h7, by rw [← h8, List.take_take, Nat.mul_one, Nat.mul_one, Nat.min_eq_left hm]⟩
theorem compact_mok : MutOk E compact_mid compact_M := by
  refine ⟨compact_mex, fun t l rest back l' h => ?_⟩
  obtain ⟨l, e1, hr, hb, hok, e2⟩ := mut0_inv h
  cases e1
  cases e2
  subst hr; subst hb
  have hok : okSort l = true := hok
  simp only [okSort, decide_eq_true_eq] at hok
  intro w ro gh xs vals hn hge hgs hown hrow hnro hargs hrolt
  match vals, hargs with
  | [], _ =>
  have hlen := Pl.compact_len l
  rcases hown with ⟨hown, hblk⟩ | ⟨h0, hxs, hblk, ad, hv⟩
  · have hx1 : xs.length = l.length := by rw [hown.1, hgs, hn]; show l.length * 1 = _; omega
    have hxs := row_strs hx1 hrow
    rcases hown.2 with ⟨hnil, hn0⟩ | ⟨g, cap, cur, hgv, hbase, hb, h1, h2, h3, h4⟩
    · have hl0 : l = [] := List.eq_nil_of_length_eq_zero (by omega)
      subst hl0
      rw [hnil]
      refine (Tryz.slices_Compact_string_empty none 0 w).mono fun e w' he => ?_
      obtain ⟨rfl, rfl⟩ := he
      refine ⟨_, gh, [], rfl, ⟨rfl, rfl, rfl, Nat.le_refl _, fun _ _ _ => rfl⟩, hn, hge, hgs, .inl ⟨?_, hblk⟩, strs_row [], fun g hg => .inl hg, (fun _ => hnil.symm), (fun h => by cases h)⟩
      rw [hnil, hn0]
      exact World.ownsRow_nil _ 0 _ _
    · rw [hgv, hn]
      rw [hge] at hb
      have hsz : gh.sz = 1 := hgs
      rw [hsz, Nat.mul_one] at h3
      rw [hsz, Nat.mul_one, hn, hxs] at h4
      have hcap : l.length ≤ cap := by omega
      refine (Tryz.slices_Compact_string g 0 cap l w (holds_of_block hb h4) (by omega) hcap).mono fun e w' he => ?_
      obtain ⟨rfl, q, rfl⟩ := he
      have hg2 : gh.blk = some g := by rw [hblk, hgv]; rfl
      have hts : (Lib.compact l ++ List.replicate (l.length - (Lib.compact l).length) []).length = l.length := by simp; omega
      have hown' := ownsRow_sorted (n := q) (os := #[]) (ts := Lib.compact l ++ List.replicate (l.length - (Lib.compact l).length) []) hts (Nat.zero_le g) hb hcap h2 (by rw [h3, Nat.mul_one])
      rw [Sort.grow_empty] at hown'
      have hgb := grownBy_sorted (w := w) (g := g) (n := q) (os := #[]) (Lib.compact l ++ List.replicate (l.length - (Lib.compact l).length) []).toArray
      rw [Sort.grow_empty] at hgb
      have hp := ownsRow_prefix hown' hlen
      rw [List.map_append, List.take_left' (by simp)] at hp
      exact ⟨_, ⟨.slice (some ⟨g, 0, none⟩) (Lib.compact l).length cap, (Lib.compact l).length, E.tid .str, E.size .str, some g⟩, (Lib.compact l).map encStr, rfl, by rw [hg2]; exact hgb, rfl, rfl, rfl, .inl ⟨hp, rfl⟩, strs_row _,
        (fun g' hg' => .inl (by rw [hg2]; exact hg')), (fun _ => rfl), (fun h => by cases h)⟩
  · have hl0 : l = [] := List.eq_nil_of_length_eq_zero (by omega)
    subst hl0
    rw [hv]
    refine (Tryz.slices_Compact_string_empty ad 0 w).mono fun e w' he => ?_
    obtain ⟨rfl, rfl⟩ := he
    exact ⟨_, gh, [], rfl, ⟨rfl, rfl, rfl, Nat.le_refl _, fun _ _ _ => rfl⟩, hn, hge, hgs, .inr ⟨h0, rfl, hblk, ad, hv⟩, strs_row [], fun g hg => .inl hg, (fun _ => hv.symm), (fun h => by cases h)⟩
def ln6 {α : Type} (l : List α) : Bool := decide (l.length ≤ 1000000)
theorem ln6_iff {α : Type} {l : List α} : ln6 l = true ↔ l.length ≤ 1000000 := by simp [ln6]
def idxF (s : List UInt8) : Nat → List (List UInt8) → Int
  | _, [] => -1
  | i, a :: t => if s = a then i else idxF s (i + 1) t
def index (l : List (List UInt8)) (s : List UInt8) : Int := idxF s 0 l
noncomputable def index_W : FnW E := fn2 (E := E) .l_str .str .int (fun l _ => ln6 l) index
def index_id : FuncId := 184
noncomputable def index_O : Oracle E := orac [] [] [] []
noncomputable def index_H : Hint E := Hint.mk [(0, [0, 1, 7, 8])] [] [] [] []
noncomputable def index_C0 (v0 : List (List UInt8)) (v1 : List UInt8) (v2 v3 : Int) : ASt E := ASt.mk 19 [(0, .d (.slice .str v0)), (1, .d (.str v1)), (7, .d (.int .i64 v2)), (8, .d (.int .i64 v3))] [] 0
noncomputable def index_t (G : Nat → ASt E → Option (List (TV E))) (x0 : List (List UInt8)) (x1 : List UInt8) : Option (List (TV E)) :=
  G 0 (index_C0 x0 x1 (x0.length : Int) 0)
theorem index_e (G : Nat → ASt E → Option (List (TV E))) (x0 : List (List UInt8)) (x1 : List UInt8) : runE index_O index_H G Tryz.f184 [⟨.l_str, x0⟩, ⟨.str, x1⟩] = index_t G x0 x1 := by kernel_rfl
noncomputable def index_t0 (G : Nat → ASt E → Option (List (TV E))) (v0 : List (List UInt8)) (v1 : List UInt8) (v2 v3 : Int) : Option (List (TV E)) :=
  bif (decide (v3 < v2)) then (bif (decide ((0 : Int) ≤ v3) && decide (v3 < (v0.length : Int))) then (bif (v1 == (List.getD v0 (Int.toNat v3) (dflt .str))) then some [⟨.int, v3⟩] else G 0 (index_C0 v0 v1 v2 (w64 (v3 + (1 : Int))))) else none) else some [⟨.int, (-1 : Int)⟩]
theorem index_l0 (G : Nat → ASt E → Option (List (TV E))) (v0 : List (List UInt8)) (v1 : List UInt8) (v2 v3 : Int) : runL index_O index_H G Tryz.f184 0 (index_C0 v0 v1 v2 v3) = index_t0 G v0 v1 v2 v3 := by kernel_rfl
theorem index_f : Tryz.prog.funcs[184]? = some Tryz.f184 := by kernel_rfl
theorem index_n : (Tryz.f184.name == "runtime.NumGoroutine") = false := by kernel_rfl
theorem index_b : Tryz.f184.body.isNone = false := by kernel_rfl
theorem index_hO : OracleOk E index_O := orac_ok .nil .nil .nil .nil
theorem index_s0 {res : List (TV E)} {v0 : List (List UInt8)} {v1 : List UInt8} {v2 v3 : Int} (h : index_t0 (Gr E Tryz.f184 res) v0 v1 v2 v3 = some res) : Ev E Tryz.f184 res 0 (index_C0 v0 v1 v2 v3) := Ev.step index_hO mix ((index_l0 _ v0 v1 v2 v3).trans h)
theorem index_ok_of (h : ∀ (x0 : List (List UInt8)) (x1 : List UInt8), (fun l _ => ln6 l) x0 x1 = true → index_t (Gr E Tryz.f184 [⟨.int, index x0 x1⟩]) x0 x1 = some [⟨.int, index x0 x1⟩]) : FnOk E index_id index_W := fn2_ok index_hO mix index_f index_n index_b (fun x0 x1 hk => (index_e _ x0 x1).trans (h x0 x1 hk))
theorem index_loop (l : List (List UInt8)) (s : List UInt8) (hl : l.length ≤ 1000000) : ∀ (m i : Nat), l.length - i = m → i ≤ l.length → Ev E Tryz.f184 [⟨.int, idxF s i (l.drop i)⟩] 0 (index_C0 l s l.length i) := by
  intro m
  induction m with
  | zero =>
    intro i h1 h2
    refine index_s0 ?_
    simp only [index_t0, dge (show l.length ≤ i by omega), cond_false, List.drop_eq_nil_of_le (show l.length ≤ i by omega)]
    rfl
  | succ m ih =>
    intro i h1 h2
    have hi : i < l.length := by omega
    refine index_s0 ?_
    simp only [index_t0, dlt hi, d0, gd l _ i hi, Bool.and_self, cond_true]
    rw [← List.getElem_cons_drop hi]
    unfold idxF
    by_cases hs : s = l[i]
    · rw [if_pos hs, show (s == l[i]) = true from by simpa using hs]; rfl
    · rw [if_neg hs, show (s == l[i]) = false from by simpa using hs, cond_false, w64_id (by omega) (by omega)]
      exact Gr_of (ih (i + 1) (by omega) (by omega))
theorem index_ok : FnOk E index_id index_W := index_ok_of fun l s hk => by
  have := index_loop l s (ln6_iff.1 hk) l.length 0 (by omega) (by omega)
  rw [List.drop_zero] at this
  exact Gr_of this
def equal (a b : List (List UInt8)) : Bool := a == b
def lens (l : List (List (List UInt8))) : Nat := (l.map List.length).sum
noncomputable def nsorted_W : FnW E := fn1 (E := E) .l_str .l_str ln6 Pl.sortD
def nsorted_id : FuncId := 113
noncomputable def nsorted_O : Oracle E := orac [] [] [(158, compact_M), (157, sort_M)] []
noncomputable def nsorted_H : Hint E := Hint.mk [] [] [] [] []
noncomputable def nsorted_t (_G : Nat → ASt E → Option (List (TV E))) (x0 : List (List UInt8)) : Option (List (TV E)) :=
  bif (decide ((([] : List (List UInt8)).length + x0.length) * 16 ≤ maxBytes)) then (bif (okSort (([] : List (List UInt8)) ++ x0)) then (bif (okSort (Pl.msort (([] : List (List UInt8)) ++ x0))) then some [⟨.l_str, (Lib.compact (Pl.msort (([] : List (List UInt8)) ++ x0)))⟩] else none) else none) else none
theorem nsorted_e (G : Nat → ASt E → Option (List (TV E))) (x0 : List (List UInt8)) : runE nsorted_O nsorted_H G Tryz.f113 [⟨.l_str, x0⟩] = nsorted_t G x0 := by kernel_rfl
theorem nsorted_f : Tryz.prog.funcs[113]? = some Tryz.f113 := by kernel_rfl
theorem nsorted_n : (Tryz.f113.name == "runtime.NumGoroutine") = false := by kernel_rfl
theorem nsorted_b : Tryz.f113.body.isNone = false := by kernel_rfl
theorem nsorted_hO : OracleOk E nsorted_O := orac_ok .nil .nil (.cons compact_mok (.cons sort_mok .nil)) .nil
theorem nsorted_ok_of (h : ∀ (x0 : List (List UInt8)), ln6 x0 = true → nsorted_t (Gr E Tryz.f113 [⟨.l_str, Pl.sortD x0⟩]) x0 = some [⟨.l_str, Pl.sortD x0⟩]) : FnOk E nsorted_id nsorted_W := fn1_ok nsorted_hO mix nsorted_f nsorted_n nsorted_b (fun x0 hk => (nsorted_e _ x0).trans (h x0 hk))
theorem nsorted_ok : FnOk E nsorted_id nsorted_W := nsorted_ok_of fun l hk => by
  have hl := ln6_iff.1 hk
  have h1 : okSort (([] : List (List UInt8)) ++ l) = true := by simpa [okSort] using hl
  have h2 : okSort (Pl.msort (([] : List (List UInt8)) ++ l)) = true := by simp only [okSort, decide_eq_true_eq, Pl.msort_len]; simpa using hl
  simp only [nsorted_t, h1, h2, cond_true]
  rw [dT (show (([] : List (List UInt8)).length + l.length) * 16 ≤ maxBytes by rw [mb, List.length_nil]; omega)]
  rfl
noncomputable def nat_W : FnW E := fn2 (E := E) .l_str .str .int (fun l _ => ln6 l) index
def nat_id : FuncId := 156
noncomputable def nat_O : Oracle E := orac [(184, index_W)] [] [] []
noncomputable def nat_H : Hint E := Hint.mk [] [] [] [] []
noncomputable def nat_t (_G : Nat → ASt E → Option (List (TV E))) (x0 : List (List UInt8)) (x1 : List UInt8) : Option (List (TV E)) :=
  bif ((fun l _ => ln6 l) x0 x1) then some [⟨.int, (index x0 x1)⟩] else none
theorem nat_e (G : Nat → ASt E → Option (List (TV E))) (x0 : List (List UInt8)) (x1 : List UInt8) : runE nat_O nat_H G Tryz.f156 [⟨.l_str, x0⟩, ⟨.str, x1⟩] = nat_t G x0 x1 := by kernel_rfl
theorem nat_f : Tryz.prog.funcs[156]? = some Tryz.f156 := by kernel_rfl
theorem nat_n : (Tryz.f156.name == "runtime.NumGoroutine") = false := by kernel_rfl
theorem nat_b : Tryz.f156.body.isNone = false := by kernel_rfl
theorem nat_hO : OracleOk E nat_O := orac_ok (.cons index_ok .nil) .nil .nil .nil
theorem nat_ok_of (h : ∀ (x0 : List (List UInt8)) (x1 : List UInt8), (fun l _ => ln6 l) x0 x1 = true → nat_t (Gr E Tryz.f156 [⟨.int, index x0 x1⟩]) x0 x1 = some [⟨.int, index x0 x1⟩]) : FnOk E nat_id nat_W := fn2_ok nat_hO mix nat_f nat_n nat_b (fun x0 x1 hk => (nat_e _ x0 x1).trans (h x0 x1 hk))
theorem nat_ok : FnOk E nat_id nat_W := nat_ok_of fun l s hk => by simp only [nat_t, hk, cond_true]
end Go.Proofs.YtgniedpgdjmfpaaGreatDoor.Rf
namespace Go.Proofs.YtgniedpgdjmfpaaGreatDoor.Rf
open Go Go.RowKit Go.Sort Go.Proofs.YtgniedpgdjmfpaaGreatDoor.Mir
def kindV (c : Int) : Int := bif (bif decide (97 ≤ c) then decide (c ≤ 122) else false) then 1 else bif (bif decide (65 ≤ c) then decide (c ≤ 90) else false) then 2 else bif (bif decide (48 ≤ c) then decide (c ≤ 57) else false) then 3 else bif c == 95 then 4 else bif c == 45 then 5 else bif c == 46 then 6 else 0
noncomputable def kindf_W : FnW E := fn1 (E := E) .byte .int (fun _ => true) kindV
def kindf_id : FuncId := 141
noncomputable def kindf_O : Oracle E := orac [] [] [] []
noncomputable def kindf_H : Hint E := Hint.mk [] [] [] [] []
noncomputable def kindf_t (_G : Nat → ASt E → Option (List (TV E))) (x0 : Int) : Option (List (TV E)) :=
  bif (bif (decide ((97 : Int) ≤ x0)) then (decide (x0 ≤ (122 : Int))) else false) then some [⟨.int, (1 : Int)⟩] else (bif (bif (decide ((65 : Int) ≤ x0)) then (decide (x0 ≤ (90 : Int))) else false) then some [⟨.int, (2 : Int)⟩] else (bif (bif (decide ((48 : Int) ≤ x0)) then (decide (x0 ≤ (57 : Int))) else false) then some [⟨.int, (3 : Int)⟩] else (bif (x0 == (95 : Int)) then some [⟨.int, (4 : Int)⟩] else (bif (x0 == (45 : Int)) then some [⟨.int, (5 : Int)⟩] else (bif (x0 == (46 : Int)) then some [⟨.int, (6 : Int)⟩] else some [⟨.int, (0 : Int)⟩])))))
theorem kindf_e (G : Nat → ASt E → Option (List (TV E))) (x0 : Int) : runE kindf_O kindf_H G Tryz.f141 [⟨.byte, x0⟩] = kindf_t G x0 := by kernel_rfl
theorem kindf_f : Tryz.prog.funcs[141]? = some Tryz.f141 := by kernel_rfl
theorem kindf_n : (Tryz.f141.name == "runtime.NumGoroutine") = false := by kernel_rfl
theorem kindf_b : Tryz.f141.body.isNone = false := by kernel_rfl
theorem kindf_hO : OracleOk E kindf_O := orac_ok .nil .nil .nil .nil
theorem kindf_ok_of (h : ∀ (x0 : Int), kindf_t (Gr E Tryz.f141 [⟨.int, kindV x0⟩]) x0 = some [⟨.int, kindV x0⟩]) : FnOk E kindf_id kindf_W := fn1_ok kindf_hO mix kindf_f kindf_n kindf_b (fun x0 _ => (kindf_e _ x0).trans (h x0))
theorem kindf_ok : FnOk E kindf_id kindf_W := kindf_ok_of fun c => by
  simp only [kindf_t, kindV]
  cases (bif decide (97 ≤ c) then decide (c ≤ 122) else false) <;> cases (bif decide (65 ≤ c) then decide (c ≤ 90) else false) <;> cases (bif decide (48 ≤ c) then decide (c ≤ 57) else false) <;> cases c == 95 <;> cases c == 45 <;> cases c == 46 <;> rfl
def nmL (f : UInt8 → Bool → Bool) : List UInt8 → Bool → Bool
  | [], _ => true
  | c :: t, b => bif f c b then false else nmL f t false
def kc (c : UInt8) : Int := kindV ((c.toNat : Int))
def badS (c : UInt8) (b : Bool) : Bool := bif kc c == 0 then true else (bif b then decide (3 < kc c) else false)
def nameV (f : UInt8 → Bool → Bool) (s : List UInt8) : Bool := bif (bif decide ((s.length : Int) < 1) then true else decide ((24 : Int) < (s.length : Int))) then false else nmL f s true
noncomputable def rservice_W : FnW E := fn1 (E := E) .str .bool (fun _ => true) (nameV badS)
def rservice_id : FuncId := 94
noncomputable def rservice_O : Oracle E := orac [(141, kindf_W)] [] [] []
noncomputable def rservice_H : Hint E := Hint.mk [(0, [0, 3])] [] [] [] []
noncomputable def rservice_C0 (v0 : List UInt8) (v1 : Int) : ASt E := ASt.mk 33 [(0, .d (.str v0)), (3, .d (.int .i64 v1))] [] 0
noncomputable def rservice_t (G : Nat → ASt E → Option (List (TV E))) (x0 : List UInt8) : Option (List (TV E)) :=
  bif (bif (decide ((x0.length : Int) < (1 : Int))) then true else (decide ((24 : Int) < (x0.length : Int)))) then some [⟨.bool, false⟩] else G 0 (rservice_C0 x0 0)
theorem rservice_e (G : Nat → ASt E → Option (List (TV E))) (x0 : List UInt8) : runE rservice_O rservice_H G Tryz.f94 [⟨.str, x0⟩] = rservice_t G x0 := by kernel_rfl
noncomputable def rservice_t0 (G : Nat → ASt E → Option (List (TV E))) (v0 : List UInt8) (v1 : Int) : Option (List (TV E)) :=
  bif (decide (v1 < (v0.length : Int))) then (bif (decide ((0 : Int) ≤ v1) && decide (v1 < (v0.length : Int))) then (bif (bif ((kindV (((List.getD v0 (Int.toNat v1) 0).toNat : Nat) : Int)) == (0 : Int)) then true else (bif (v1 == (0 : Int)) then (decide ((3 : Int) < (kindV (((List.getD v0 (Int.toNat v1) 0).toNat : Nat) : Int)))) else false)) then some [⟨.bool, false⟩] else G 0 (rservice_C0 v0 (w64 (v1 + (1 : Int))))) else none) else some [⟨.bool, true⟩]
theorem rservice_l0 (G : Nat → ASt E → Option (List (TV E))) (v0 : List UInt8) (v1 : Int) : runL rservice_O rservice_H G Tryz.f94 0 (rservice_C0 v0 v1) = rservice_t0 G v0 v1 := by kernel_rfl
theorem rservice_f : Tryz.prog.funcs[94]? = some Tryz.f94 := by kernel_rfl
theorem rservice_n : (Tryz.f94.name == "runtime.NumGoroutine") = false := by kernel_rfl
theorem rservice_b : Tryz.f94.body.isNone = false := by kernel_rfl
theorem rservice_hO : OracleOk E rservice_O := orac_ok (.cons kindf_ok .nil) .nil .nil .nil
theorem rservice_s0 {res : List (TV E)} {v0 : List UInt8} {v1 : Int} (h : rservice_t0 (Gr E Tryz.f94 res) v0 v1 = some res) : Ev E Tryz.f94 res 0 (rservice_C0 v0 v1) := Ev.step rservice_hO mix ((rservice_l0 _ v0 v1).trans h)
theorem rservice_ok_of (h : ∀ (x0 : List UInt8), rservice_t (Gr E Tryz.f94 [⟨.bool, (nameV badS) x0⟩]) x0 = some [⟨.bool, (nameV badS) x0⟩]) : FnOk E rservice_id rservice_W := fn1_ok rservice_hO mix rservice_f rservice_n rservice_b (fun x0 _ => (rservice_e _ x0).trans (h x0))
theorem rservice_loop (s : List UInt8) (hs : s.length ≤ 24) : ∀ (m i : Nat), s.length - i = m → i ≤ s.length →
    Ev E Tryz.f94 [⟨.bool, nmL badS (s.drop i) ((i : Int) == 0)⟩] 0 (rservice_C0 s i) := by
  intro m
  induction m with
  | zero =>
    intro i h1 h2
    refine rservice_s0 ?_
    simp only [rservice_t0, dge (show s.length ≤ i by omega), cond_false, List.drop_eq_nil_of_le (show s.length ≤ i by omega)]
    rfl
  | succ m ih =>
    intro i h1 h2
    have hi : i < s.length := by omega
    have e3 : w64 ((i : Int) + 1) = ((i + 1 : Nat) : Int) := by rw [w64_id (by omega) (by omega)]; omega
    refine rservice_s0 ?_
    simp only [rservice_t0, dlt hi, d0, gd s _ i hi, Bool.and_self, cond_true, e3]
    rw [← List.getElem_cons_drop hi]
    simp only [nmL]
    change (bif badS s[i] ((i : Int) == 0) then _ else _) = _
    cases badS s[i] ((i : Int) == 0) with
    | true => rfl
    | false =>
      have := Gr_of (ih (i + 1) (by omega) (by omega))
      rw [eqF (show ((i + 1 : Nat) : Int) ≠ 0 by omega)] at this
      exact this
theorem rservice_ok : FnOk E rservice_id rservice_W := rservice_ok_of fun s => by
  simp only [rservice_t, nameV]
  cases hg : (bif decide ((s.length : Int) < 1) then true else decide ((24 : Int) < (s.length : Int))) with
  | true => rfl
  | false =>
    have hs : s.length ≤ 24 := by
      by_cases a : (s.length : Int) < 1
      · omega
      · rw [dF a, cond_false] at hg
        have : ¬ (24 : Int) < (s.length : Int) := by simpa using hg
        omega
    have := Gr_of (rservice_loop s hs s.length 0 (by omega) (by omega))
    rw [List.drop_zero] at this
    exact this
def badV (c : UInt8) (b : Bool) : Bool := bif (bif kc c == 0 then true else decide (4 < kc c)) then true else (bif b then kc c == 3 else false)
noncomputable def rvariable_W : FnW E := fn1 (E := E) .str .bool (fun _ => true) (nameV badV)
def rvariable_id : FuncId := 139
noncomputable def rvariable_O : Oracle E := orac [(141, kindf_W)] [] [] []
noncomputable def rvariable_H : Hint E := Hint.mk [(0, [0, 3])] [] [] [] []
noncomputable def rvariable_C0 (v0 : List UInt8) (v1 : Int) : ASt E := ASt.mk 37 [(0, .d (.str v0)), (3, .d (.int .i64 v1))] [] 0
noncomputable def rvariable_t (G : Nat → ASt E → Option (List (TV E))) (x0 : List UInt8) : Option (List (TV E)) :=
  bif (bif (decide ((x0.length : Int) < (1 : Int))) then true else (decide ((24 : Int) < (x0.length : Int)))) then some [⟨.bool, false⟩] else G 0 (rvariable_C0 x0 0)
theorem rvariable_e (G : Nat → ASt E → Option (List (TV E))) (x0 : List UInt8) : runE rvariable_O rvariable_H G Tryz.f139 [⟨.str, x0⟩] = rvariable_t G x0 := by kernel_rfl
noncomputable def rvariable_t0 (G : Nat → ASt E → Option (List (TV E))) (v0 : List UInt8) (v1 : Int) : Option (List (TV E)) :=
  bif (decide (v1 < (v0.length : Int))) then (bif (decide ((0 : Int) ≤ v1) && decide (v1 < (v0.length : Int))) then (bif (bif (bif ((kindV (((List.getD v0 (Int.toNat v1) 0).toNat : Nat) : Int)) == (0 : Int)) then true else (decide ((4 : Int) < (kindV (((List.getD v0 (Int.toNat v1) 0).toNat : Nat) : Int))))) then true else (bif (v1 == (0 : Int)) then ((kindV (((List.getD v0 (Int.toNat v1) 0).toNat : Nat) : Int)) == (3 : Int)) else false)) then some [⟨.bool, false⟩] else G 0 (rvariable_C0 v0 (w64 (v1 + (1 : Int))))) else none) else some [⟨.bool, true⟩]
theorem rvariable_l0 (G : Nat → ASt E → Option (List (TV E))) (v0 : List UInt8) (v1 : Int) : runL rvariable_O rvariable_H G Tryz.f139 0 (rvariable_C0 v0 v1) = rvariable_t0 G v0 v1 := by kernel_rfl
theorem rvariable_f : Tryz.prog.funcs[139]? = some Tryz.f139 := by kernel_rfl
theorem rvariable_n : (Tryz.f139.name == "runtime.NumGoroutine") = false := by kernel_rfl
theorem rvariable_b : Tryz.f139.body.isNone = false := by kernel_rfl
theorem rvariable_hO : OracleOk E rvariable_O := orac_ok (.cons kindf_ok .nil) .nil .nil .nil
theorem rvariable_s0 {res : List (TV E)} {v0 : List UInt8} {v1 : Int} (h : rvariable_t0 (Gr E Tryz.f139 res) v0 v1 = some res) : Ev E Tryz.f139 res 0 (rvariable_C0 v0 v1) := Ev.step rvariable_hO mix ((rvariable_l0 _ v0 v1).trans h)
theorem rvariable_ok_of (h : ∀ (x0 : List UInt8), rvariable_t (Gr E Tryz.f139 [⟨.bool, (nameV badV) x0⟩]) x0 = some [⟨.bool, (nameV badV) x0⟩]) : FnOk E rvariable_id rvariable_W := fn1_ok rvariable_hO mix rvariable_f rvariable_n rvariable_b (fun x0 _ => (rvariable_e _ x0).trans (h x0))
theorem rvariable_0 (s : List UInt8) (hs : s.length ≤ 24) : ∀ (m i : Nat), s.length - i = m → i ≤ s.length →
    Ev E Tryz.f139 [⟨.bool, nmL badV (s.drop i) ((i : Int) == 0)⟩] 0 (rvariable_C0 s i) := by
  intro m
  induction m with
  | zero =>
    intro i  h1 h2
    refine rvariable_s0 ?_
    simp only [rvariable_t0, dge (show s.length ≤ i by omega), cond_false, List.drop_eq_nil_of_le (show s.length ≤ i by omega)]
    rfl
  | succ m ih2 =>
    intro i  h1 h2
    have hi : i < s.length := by omega
    have e3 : w64 ((i : Int) + 1) = ((i + 1 : Nat) : Int) := by rw [w64_id (by omega) (by omega)]; omega
    refine rvariable_s0 ?_
    simp only [rvariable_t0, dlt hi, d0, gd s _ i hi, e3, Bool.and_self, Bool.true_or, cond_true]
    rw [← List.getElem_cons_drop hi]
    simp only [nmL]
    change (bif badV s[i] ((i : Int) == 0) then _ else _) = _
    cases badV s[i] ((i : Int) == 0) with
    | true => rfl
    | false =>
      have := Gr_of (ih2 (i + 1) (by omega) (by omega))
      rw [eqF (show ((i + 1 : Nat) : Int) ≠ 0 by omega)] at this
      exact this
theorem rvariable_ok : FnOk E rvariable_id rvariable_W := rvariable_ok_of fun s => by
  simp only [rvariable_t, nameV]
  cases hg : (bif decide ((s.length : Int) < 1) then true else decide ((24 : Int) < (s.length : Int))) with
  | true => rfl
  | false =>
    have hs : s.length ≤ 24 := by
      by_cases a : (s.length : Int) < 1
      · omega
      · rw [dF a, cond_false] at hg
        have : ¬ (24 : Int) < (s.length : Int) := by simpa using hg
        omega
    have := Gr_of (rvariable_0 s hs s.length 0 (by omega) (by omega))
    rw [List.drop_zero] at this
    exact this
def inV (l : List (List UInt8)) (s : List UInt8) : Bool := l.any (· == s)
noncomputable def rin_W : FnW E := fn2 (E := E) .l_str .str .bool (fun l _ => ln6 l) inV
def rin_id : FuncId := 91
noncomputable def rin_O : Oracle E := orac [] [] [] []
noncomputable def rin_H : Hint E := Hint.mk [(0, [0, 1, 5])] [] [] [] []
noncomputable def rin_C0 (v0 : List (List UInt8)) (v1 : List UInt8) (v2 : Int) : ASt E := ASt.mk 18 [(0, .d (.slice .str v0)), (1, .d (.str v1)), (5, .d (.int .i64 v2))] [] 0
noncomputable def rin_t (G : Nat → ASt E → Option (List (TV E))) (x0 : List (List UInt8)) (x1 : List UInt8) : Option (List (TV E)) :=
  G 0 (rin_C0 x0 x1 0)
theorem rin_e (G : Nat → ASt E → Option (List (TV E))) (x0 : List (List UInt8)) (x1 : List UInt8) : runE rin_O rin_H G Tryz.f91 [⟨.l_str, x0⟩, ⟨.str, x1⟩] = rin_t G x0 x1 := by kernel_rfl
noncomputable def rin_t0 (G : Nat → ASt E → Option (List (TV E))) (v0 : List (List UInt8)) (v1 : List UInt8) (v2 : Int) : Option (List (TV E)) :=
  bif (decide (v2 < (v0.length : Int))) then (bif (decide ((0 : Int) ≤ v2) && decide (v2 < (v0.length : Int))) then (bif ((List.getD v0 (Int.toNat v2) (dflt .str)) == v1) then some [⟨.bool, true⟩] else G 0 (rin_C0 v0 v1 (w64 (v2 + (1 : Int))))) else none) else some [⟨.bool, false⟩]
theorem rin_l0 (G : Nat → ASt E → Option (List (TV E))) (v0 : List (List UInt8)) (v1 : List UInt8) (v2 : Int) : runL rin_O rin_H G Tryz.f91 0 (rin_C0 v0 v1 v2) = rin_t0 G v0 v1 v2 := by kernel_rfl
theorem rin_f : Tryz.prog.funcs[91]? = some Tryz.f91 := by kernel_rfl
theorem rin_n : (Tryz.f91.name == "runtime.NumGoroutine") = false := by kernel_rfl
theorem rin_b : Tryz.f91.body.isNone = false := by kernel_rfl
theorem rin_hO : OracleOk E rin_O := orac_ok .nil .nil .nil .nil
theorem rin_s0 {res : List (TV E)} {v0 : List (List UInt8)} {v1 : List UInt8} {v2 : Int} (h : rin_t0 (Gr E Tryz.f91 res) v0 v1 v2 = some res) : Ev E Tryz.f91 res 0 (rin_C0 v0 v1 v2) := Ev.step rin_hO mix ((rin_l0 _ v0 v1 v2).trans h)
theorem rin_ok_of (h : ∀ (x0 : List (List UInt8)) (x1 : List UInt8), (fun l _ => ln6 l) x0 x1 = true → rin_t (Gr E Tryz.f91 [⟨.bool, inV x0 x1⟩]) x0 x1 = some [⟨.bool, inV x0 x1⟩]) : FnOk E rin_id rin_W := fn2_ok rin_hO mix rin_f rin_n rin_b (fun x0 x1 hk => (rin_e _ x0 x1).trans (h x0 x1 hk))
theorem rin_0 (l : List (List UInt8)) (s : List UInt8) (hs : l.length ≤ 1000000) : ∀ (m i : Nat), l.length - i = m → i ≤ l.length →
    Ev E Tryz.f91 [⟨.bool, (l.drop i).any (· == s)⟩] 0 (rin_C0 l s i) := by
  intro m
  induction m with
  | zero =>
    intro i  h1 h2
    refine rin_s0 ?_
    simp only [rin_t0, dge (show l.length ≤ i by omega), cond_false, List.drop_eq_nil_of_le (show l.length ≤ i by omega)]
    rfl
  | succ m ih2 =>
    intro i  h1 h2
    have hi : i < l.length := by omega
    have e3 : w64 ((i : Int) + 1) = ((i + 1 : Nat) : Int) := by rw [w64_id (by omega) (by omega)]; omega
    refine rin_s0 ?_
    simp only [rin_t0, dlt hi, d0, gd l _ i hi, e3, Bool.and_self, Bool.true_or, cond_true]
    rw [← List.getElem_cons_drop hi]
    rw [List.any_cons]
    cases l[i] == s with
    | true => rfl
    | false => exact Gr_of (ih2 (i + 1) (by omega) (by omega))
theorem rin_ok : FnOk E rin_id rin_W := rin_ok_of fun l s hk => by
  have := Gr_of (rin_0 l s (ln6_iff.1 hk) l.length 0 (by omega) (by omega))
  rw [List.drop_zero] at this
  exact this
def lastLt (out : List (List UInt8)) (x : List UInt8) : Bool := match out.getLast? with
  | none => true
  | some z => decide (z < x)
theorem last_at (out : List (List UInt8)) (z : List UInt8) (hl : out.length ≤ 1000000) : List.getD (out ++ [z]) (Int.toNat (w64 ((((out ++ [z]).length : Nat) : Int) - 1))) (dflt .str) = z := by
  rw [List.length_append, List.length_singleton, w64_id (by omega) (by omega), show (((out.length + 1 : Nat) : Int) - 1) = (out.length : Int) from by omega, gd _ _ out.length (by simp)]
  simp
theorem cExpr (out : List (List UInt8)) (x : List UInt8) (hl : out.length ≤ 1000000) :
    (bif (((out.length : Nat) : Int) == (0 : Int)) then true else (!(Op.bytesLess x (List.getD out (Int.toNat (w64 (((out.length : Nat) : Int) - 1))) (dflt .str)) || x == (List.getD out (Int.toNat (w64 (((out.length : Nat) : Int) - 1))) (dflt .str))))) = lastLt out x := by
  rcases List.eq_nil_or_concat out with rfl | ⟨o, z, rfl⟩
  · rfl
  · rw [List.concat_eq_append] at hl ⊢
    rw [last_at o z (by simp at hl; omega), eqF (by simp; omega), cond_false, Go.Proofs.bytesLess_eq]
    unfold lastLt
    rw [List.getLast?_concat]
    simp only
    rcases Pl.s_tri z x with h | h | h
    · have h1 : ¬ x < z := Pl.s_asymm h
      have h2 : x ≠ z := fun e => by subst e; exact Pl.s_irrefl _ h
      simp [h, h1, h2]
    · subst h
      simp [Pl.s_irrefl]
    · have h1 : ¬ z < x := Pl.s_asymm h
      simp [h, h1]
theorem okLast (out : List (List UInt8)) (hl : out.length ≤ 1000000) : ((decide ((0 : Int) ≤ (w64 (((out.length : Nat) : Int) - 1))) && decide ((w64 (((out.length : Nat) : Int) - 1)) < (out.length : Nat))) || !(!(((out.length : Nat) : Int) == (0 : Int)))) = true := by
  by_cases h : out.length = 0
  · rw [h]; rfl
  · rw [w64_id (by omega) (by omega), dT (by omega), dT (by omega)]; rfl
structure Pre (l out : List (List UInt8)) : Prop where
  ss : Pl.SS out
  sub : ∀ x ∈ out, x ∈ l
  low : ∀ y ∈ l, y ∉ out → ∀ x ∈ out, x < y
theorem Pre.last {l out : List (List UInt8)} (h : Pre l out) {x : List UInt8} (hx : x ∈ l) : lastLt out x = true ↔ x ∉ out := by
  unfold lastLt
  rcases List.eq_nil_or_concat out with rfl | ⟨o, z, rfl⟩
  · simp
  · rw [List.concat_eq_append] at h ⊢
    rw [List.getLast?_concat]
    simp only [decide_eq_true_eq]
    constructor
    · intro hz hm
      have hs := h.ss
      unfold Pl.SS at hs
      rw [List.pairwise_append] at hs
      rcases List.mem_append.1 hm with hm | hm
      · exact Pl.s_asymm hz (hs.2.2 x hm z (by simp))
      · have : x = z := by simpa using hm
        subst this
        exact Pl.s_irrefl _ hz
    · exact fun hn => h.low x hx hn z (by simp)
def lack (l out : List (List UInt8)) : Nat := l.countP fun x => !decide (x ∈ out)
theorem lack_step (out : List (List UInt8)) (z : List UInt8) (hz : z ∉ out) : ∀ (l : List (List UInt8)), lack l (out ++ [z]) ≤ lack l out ∧ (z ∈ l → lack l (out ++ [z]) + 1 ≤ lack l out)
  | [] => ⟨Nat.le_refl _, fun h => by cases h⟩
  | a :: t => by
    obtain ⟨h1, h2⟩ := lack_step out z hz t
    unfold lack at *
    simp only [List.countP_cons]
    by_cases e : a = z
    · subst e
      have k1 : (!decide (a ∈ out ++ [a])) = false := by simp
      have k2 : (!decide (a ∈ out)) = true := by simpa using hz
      rw [k1, k2]
      simp only [Bool.false_eq_true, if_false, if_true]
      exact ⟨by omega, fun _ => by omega⟩
    · have k : (!decide (a ∈ out ++ [z])) = (!decide (a ∈ out)) := by simp [e]
      rw [k]
      refine ⟨by omega, fun hm => ?_⟩
      have := h2 ((List.mem_cons.1 hm).resolve_left (fun h => e h.symm))
      omega
def Best (l out : List (List UInt8)) (i : Nat) (b : Int) : Prop :=
  (b = -1 ∧ ∀ (k : Nat) x, k < i → l[k]? = some x → x ∈ out) ∨ ∃ (j : Nat) (z : List UInt8), j < i ∧ b = (j : Int) ∧ l[j]? = some z ∧ z ∉ out ∧ ∀ (k : Nat) x, k < i → l[k]? = some x → x ∉ out → z ≤ x
noncomputable def rsorted_W : FnW E := fn1 (E := E) .l_str .l_str ln6 Pl.sortD
def rsorted_id : FuncId := 13
noncomputable def rsorted_O : Oracle E := orac [] [] [] []
noncomputable def rsorted_H : Hint E := Hint.mk [(0, [0, 3]), (1, [0, 3, 4, 5])] [] [] [] []
noncomputable def rsorted_C0 (v0 : List (List UInt8)) (v1 : Nat) (v2 : List (List UInt8)) : ASt E := ASt.mk 55 [(0, .d (.slice .str v0)), (3, .row .str v1 0)] [(0, .row .str v2)] 1
noncomputable def rsorted_C1 (v0 : List (List UInt8)) (v1 : Nat) (v2 v3 : Int) (v4 : List (List UInt8)) : ASt E := ASt.mk 55 [(0, .d (.slice .str v0)), (3, .row .str v1 0), (4, .d (.int .i64 v2)), (5, .d (.int .i64 v3))] [(0, .row .str v4)] 1
noncomputable def rsorted_t (G : Nat → ASt E → Option (List (TV E))) (x0 : List (List UInt8)) : Option (List (TV E)) :=
  G 0 (rsorted_C0 x0 0 [])
theorem rsorted_e (G : Nat → ASt E → Option (List (TV E))) (x0 : List (List UInt8)) : runE rsorted_O rsorted_H G Tryz.f13 [⟨.l_str, x0⟩] = rsorted_t G x0 := by kernel_rfl
noncomputable def rsorted_t0 (G : Nat → ASt E → Option (List (TV E))) (v0 : List (List UInt8)) (v1 : Nat) (v2 : List (List UInt8)) : Option (List (TV E)) :=
  G 1 (rsorted_C1 v0 v1 (-1) 0 v2)
theorem rsorted_l0 (G : Nat → ASt E → Option (List (TV E))) (v0 : List (List UInt8)) (v1 : Nat) (v2 : List (List UInt8)) : runL rsorted_O rsorted_H G Tryz.f13 0 (rsorted_C0 v0 v1 v2) = rsorted_t0 G v0 v1 v2 := by kernel_rfl
noncomputable def rsorted_t1 (G : Nat → ASt E → Option (List (TV E))) (v0 : List (List UInt8)) (v1 : Nat) (v2 v3 : Int) (v4 : List (List UInt8)) : Option (List (TV E)) :=
  bif (decide (v3 < (v0.length : Int))) then (bif ((decide ((0 : Int) ≤ v3) && decide (v3 < (v0.length : Int))) || !(!(((v1 : Nat) : Int) == (0 : Int)))) then (bif ((decide ((0 : Int) ≤ (w64 (((v1 : Nat) : Int) - (1 : Int)))) && decide ((w64 (((v1 : Nat) : Int) - (1 : Int))) < (v1 : Nat))) || !(!(((v1 : Nat) : Int) == (0 : Int)))) then (bif ((decide ((0 : Int) ≤ v3) && decide (v3 < (v0.length : Int))) || !((bif (((v1 : Nat) : Int) == (0 : Int)) then true else (!(Op.bytesLess (List.getD v0 (Int.toNat v3) (dflt .str)) (List.getD v4 (Int.toNat (w64 (((v1 : Nat) : Int) - (1 : Int)))) (dflt .str)) || (List.getD v0 (Int.toNat v3) (dflt .str)) == (List.getD v4 (Int.toNat (w64 (((v1 : Nat) : Int) - (1 : Int)))) (dflt .str))))) && (!(decide (v2 < (0 : Int)))))) then (bif ((decide ((0 : Int) ≤ v2) && decide (v2 < (v0.length : Int))) || !((bif (((v1 : Nat) : Int) == (0 : Int)) then true else (!(Op.bytesLess (List.getD v0 (Int.toNat v3) (dflt .str)) (List.getD v4 (Int.toNat (w64 (((v1 : Nat) : Int) - (1 : Int)))) (dflt .str)) || (List.getD v0 (Int.toNat v3) (dflt .str)) == (List.getD v4 (Int.toNat (w64 (((v1 : Nat) : Int) - (1 : Int)))) (dflt .str))))) && (!(decide (v2 < (0 : Int)))))) then (bif (bif (bif (((v1 : Nat) : Int) == (0 : Int)) then true else (!(Op.bytesLess (List.getD v0 (Int.toNat v3) (dflt .str)) (List.getD v4 (Int.toNat (w64 (((v1 : Nat) : Int) - (1 : Int)))) (dflt .str)) || (List.getD v0 (Int.toNat v3) (dflt .str)) == (List.getD v4 (Int.toNat (w64 (((v1 : Nat) : Int) - (1 : Int)))) (dflt .str))))) then (bif (decide (v2 < (0 : Int))) then true else (Op.bytesLess (List.getD v0 (Int.toNat v3) (dflt .str)) (List.getD v0 (Int.toNat v2) (dflt .str)))) else false) then G 1 (rsorted_C1 v0 v1 v3 (w64 (v3 + (1 : Int))) v4) else G 1 (rsorted_C1 v0 v1 v2 (w64 (v3 + (1 : Int))) v4)) else none) else none) else none) else none) else (bif (decide (v2 < (0 : Int))) then some [⟨.l_str, v4⟩] else (bif (decide ((0 : Int) ≤ v2) && decide (v2 < (v0.length : Int))) then (bif (decide ((v4.length + ([(List.getD v0 (Int.toNat v2) (dflt .str))] : List (List UInt8)).length) * 16 ≤ maxBytes)) then G 0 (rsorted_C0 v0 (v4.length + ([(List.getD v0 (Int.toNat v2) (dflt .str))] : List (List UInt8)).length) (v4 ++ ([(List.getD v0 (Int.toNat v2) (dflt .str))] : List (List UInt8)))) else none) else none))
theorem rsorted_l1 (G : Nat → ASt E → Option (List (TV E))) (v0 : List (List UInt8)) (v1 : Nat) (v2 v3 : Int) (v4 : List (List UInt8)) : runL rsorted_O rsorted_H G Tryz.f13 1 (rsorted_C1 v0 v1 v2 v3 v4) = rsorted_t1 G v0 v1 v2 v3 v4 := by kernel_rfl
theorem rsorted_f : Tryz.prog.funcs[13]? = some Tryz.f13 := by kernel_rfl
theorem rsorted_n : (Tryz.f13.name == "runtime.NumGoroutine") = false := by kernel_rfl
theorem rsorted_b : Tryz.f13.body.isNone = false := by kernel_rfl
theorem rsorted_hO : OracleOk E rsorted_O := orac_ok .nil .nil .nil .nil
theorem rsorted_s0 {res : List (TV E)} {v0 : List (List UInt8)} {v1 : Nat} {v2 : List (List UInt8)} (h : rsorted_t0 (Gr E Tryz.f13 res) v0 v1 v2 = some res) : Ev E Tryz.f13 res 0 (rsorted_C0 v0 v1 v2) := Ev.step rsorted_hO mix ((rsorted_l0 _ v0 v1 v2).trans h)
theorem rsorted_s1 {res : List (TV E)} {v0 : List (List UInt8)} {v1 : Nat} {v2 v3 : Int} {v4 : List (List UInt8)} (h : rsorted_t1 (Gr E Tryz.f13 res) v0 v1 v2 v3 v4 = some res) : Ev E Tryz.f13 res 1 (rsorted_C1 v0 v1 v2 v3 v4) := Ev.step rsorted_hO mix ((rsorted_l1 _ v0 v1 v2 v3 v4).trans h)
theorem rsorted_ok_of (h : ∀ (x0 : List (List UInt8)), ln6 x0 = true → rsorted_t (Gr E Tryz.f13 [⟨.l_str, Pl.sortD x0⟩]) x0 = some [⟨.l_str, Pl.sortD x0⟩]) : FnOk E rsorted_id rsorted_W := fn1_ok rsorted_hO mix rsorted_f rsorted_n rsorted_b (fun x0 hk => (rsorted_e _ x0).trans (h x0 hk))
theorem rsorted_1 (l out : List (List UInt8)) (hl : l.length ≤ 1000000) (hp : Pre l out) (hn : out.length + lack l out ≤ l.length)
    (ih : ∀ z, Pre l (out ++ [z]) → (out ++ [z]).length + lack l (out ++ [z]) ≤ l.length → lack l (out ++ [z]) < lack l out → Ev E Tryz.f13 [⟨.l_str, Pl.sortD l⟩] 0 (rsorted_C0 l (out ++ [z]).length (out ++ [z]))) :
    ∀ (m i : Nat) (b : Int), l.length - i = m → i ≤ l.length → Best l out i b → Ev E Tryz.f13 [⟨.l_str, Pl.sortD l⟩] 1 (rsorted_C1 l out.length b i out) := by
  have ho : out.length ≤ 1000000 := by omega
  intro m
  induction m with
  | zero =>
    intro i b h1 h2 hb
    have e : i = l.length := by omega
    subst e
    refine rsorted_s1 ?_
    simp only [rsorted_t1, dge (Nat.le_refl l.length), cond_false]
    rcases hb with ⟨rfl, hb⟩ | ⟨j, z, hj, rfl, hz, hzo, hmin⟩
    · rw [dT (by decide), cond_true, Pl.sortD_eq hp.ss fun x => ⟨hp.sub x, fun hx => ?_⟩]
      obtain ⟨k, hk, rfl⟩ := List.mem_iff_getElem.1 hx
      exact hb k _ hk (List.getElem?_eq_getElem hk)
    · have hzl : l[j] = z := by rw [List.getElem?_eq_getElem hj] at hz; exact Option.some.inj hz
      rw [dF (by omega), cond_false, d0, dlt hj, gd l _ j hj, hzl]
      simp only [Bool.and_self, cond_true]
      rw [dT (show (out.length + [z].length) * 16 ≤ maxBytes by rw [mb, List.length_singleton]; omega), cond_true]
      have hmem : z ∈ l := by rw [← hzl]; exact List.getElem_mem hj
      have hlk := (lack_step out z hzo l).2 hmem
      have hpre : Pre l (out ++ [z]) := {
        ss := by
          unfold Pl.SS
          rw [List.pairwise_append]
          exact ⟨hp.ss, List.pairwise_singleton _ _, fun x hx y hy => by
            have : y = z := by simpa using hy
            subst this
            exact hp.low y hmem hzo x hx⟩
        sub := fun x hx => by
          rcases List.mem_append.1 hx with hx | hx
          · exact hp.sub x hx
          · have : x = z := by simpa using hx
            subst this; exact hmem
        low := fun y hy hyo x hx => by
          have hyo' : y ∉ out := fun h => hyo (List.mem_append_left _ h)
          have hyz : y ≠ z := fun h => hyo (by rw [h]; simp)
          rcases List.mem_append.1 hx with hx | hx
          · exact hp.low y hy hyo' x hx
          · have : x = z := by simpa using hx
            subst this
            obtain ⟨k, hk, rfl⟩ := List.mem_iff_getElem.1 hy
            exact Pl.s_lt_of_le_ne (hmin k _ hk (List.getElem?_eq_getElem hk) hyo') (fun h => hyz h.symm) }
      have := Gr_of (ih z hpre (by rw [List.length_append, List.length_singleton]; omega) (by omega))
      rw [List.length_append] at this
      exact this
  | succ m ihm =>
    intro i b h1 h2 hb
    have hi : i < l.length := by omega
    have hgi := List.getElem?_eq_getElem hi
    refine rsorted_s1 ?_
    have hlast := hp.last (List.getElem_mem hi)
    have e3 : w64 ((i : Int) + 1) = ((i + 1 : Nat) : Int) := by rw [w64_id (by omega) (by omega)]; omega
    simp only [rsorted_t1, dlt hi, d0, gd l _ i hi, cExpr out _ ho, okLast out ho, e3, Bool.and_self, Bool.true_or, cond_true]
    cases hc : lastLt out l[i] with
    | false =>
      have hin : l[i] ∈ out := Decidable.byContradiction fun h => by rw [hlast.2 h] at hc; cases hc
      simp only [Bool.false_and, Bool.not_false, Bool.or_true, cond_true, cond_false]
      refine Gr_of (ihm (i + 1) b (by omega) (by omega) ?_)
      rcases hb with ⟨rfl, hb⟩ | ⟨j, z, hj, rfl, hz, hzo, hmin⟩
      · refine .inl ⟨rfl, fun k x hk hx => ?_⟩
        by_cases hki : k = i
        · subst hki; rw [hgi] at hx; cases hx; exact hin
        · exact hb k x (by omega) hx
      · refine .inr ⟨j, z, by omega, rfl, hz, hzo, fun k x hk hx hxo => ?_⟩
        by_cases hki : k = i
        · subst hki; rw [hgi] at hx; cases hx; exact absurd hin hxo
        · exact hmin k x (by omega) hx hxo
    | true =>
      have hno : l[i] ∉ out := hlast.1 hc
      rcases hb with ⟨rfl, hb⟩ | ⟨j, z, hj, rfl, hz, hzo, hmin⟩
      · have hd : decide ((-1 : Int) < 0) = true := by decide
        simp only [hd, Bool.not_true, Bool.and_false, Bool.not_false, Bool.or_true, cond_true]
        refine Gr_of (ihm (i + 1) (i : Int) (by omega) (by omega) (.inr ⟨i, l[i], by omega, rfl, hgi, hno, fun k x hk hx hxo => ?_⟩))
        by_cases hki : k = i
        · subst hki; rw [hgi] at hx; cases hx; exact Pl.s_le_iff.2 (Pl.s_irrefl _)
        · exact absurd (hb k x (by omega) hx) hxo
      · have hjl : j < l.length := by omega
        have hzl : l[j] = z := by rw [List.getElem?_eq_getElem hjl] at hz; exact Option.some.inj hz
        have hd : decide ((j : Int) < 0) = false := dF (by omega)
        simp only [hd, d0, dlt hjl, gd l _ j hjl, hzl, Bool.not_false, Bool.and_self, Bool.true_or, cond_true, cond_false, Go.Proofs.bytesLess_eq]
        by_cases hlt : l[i] < z
        · rw [dT hlt, cond_true]
          refine Gr_of (ihm (i + 1) (i : Int) (by omega) (by omega) (.inr ⟨i, l[i], by omega, rfl, hgi, hno, fun k x hk hx hxo => ?_⟩))
          by_cases hki : k = i
          · subst hki; rw [hgi] at hx; cases hx; exact Pl.s_le_iff.2 (Pl.s_irrefl _)
          · exact Pl.s_le_trans (Pl.s_le_iff.2 (Pl.s_asymm hlt)) (hmin k x (by omega) hx hxo)
        · rw [dF hlt, cond_false]
          refine Gr_of (ihm (i + 1) (j : Int) (by omega) (by omega) (.inr ⟨j, z, by omega, rfl, hz, hzo, fun k x hk hx hxo => ?_⟩))
          by_cases hki : k = i
          · subst hki; rw [hgi] at hx; cases hx; exact Pl.s_le_iff.2 hlt
          · exact hmin k x (by omega) hx hxo
theorem rsorted_0 (l : List (List UInt8)) (hl : l.length ≤ 1000000) : ∀ (m : Nat) (out : List (List UInt8)), lack l out = m → Pre l out → out.length + lack l out ≤ l.length → Ev E Tryz.f13 [⟨.l_str, Pl.sortD l⟩] 0 (rsorted_C0 l out.length out) := by
  intro m
  induction m using Nat.strongRecOn with
  | ind m ih =>
    intro out hm hp hn
    refine rsorted_s0 ?_
    simp only [rsorted_t0]
    exact Gr_of (rsorted_1 l out hl hp hn (fun z h1 h2 h3 => ih (lack l (out ++ [z])) (by omega) (out ++ [z]) rfl h1 h2) l.length 0 (-1) (by omega) (by omega) (.inl ⟨rfl, fun k x hk => by omega⟩))
theorem rsorted_ok : FnOk E rsorted_id rsorted_W := rsorted_ok_of fun l hk => by
  have hl := ln6_iff.1 hk
  have hlack : lack l [] ≤ l.length := List.countP_le_length
  exact Gr_of (rsorted_0 l hl _ [] rfl ⟨List.Pairwise.nil, fun x h => (by cases h), fun y _ _ x h => (by cases h)⟩ (by rw [List.length_nil]; omega))
noncomputable def rsame_W : FnW E := fn2 (E := E) .l_str .l_str .bool (fun a _ => ln6 a) equal
def rsame_id : FuncId := 43
noncomputable def rsame_O : Oracle E := orac [] [] [] []
noncomputable def rsame_H : Hint E := Hint.mk [(0, [0, 1, 5])] [] [] [] []
noncomputable def rsame_C0 (v0 : List (List UInt8)) (v1 : List (List UInt8)) (v2 : Int) : ASt E := ASt.mk 26 [(0, .d (.slice .str v0)), (1, .d (.slice .str v1)), (5, .d (.int .i64 v2))] [] 0
noncomputable def rsame_t (G : Nat → ASt E → Option (List (TV E))) (x0 : List (List UInt8)) (x1 : List (List UInt8)) : Option (List (TV E)) :=
  bif ((x0.length : Int) != (x1.length : Int)) then some [⟨.bool, false⟩] else G 0 (rsame_C0 x0 x1 0)
theorem rsame_e (G : Nat → ASt E → Option (List (TV E))) (x0 : List (List UInt8)) (x1 : List (List UInt8)) : runE rsame_O rsame_H G Tryz.f43 [⟨.l_str, x0⟩, ⟨.l_str, x1⟩] = rsame_t G x0 x1 := by kernel_rfl
noncomputable def rsame_t0 (G : Nat → ASt E → Option (List (TV E))) (v0 : List (List UInt8)) (v1 : List (List UInt8)) (v2 : Int) : Option (List (TV E)) :=
  bif (decide (v2 < (v0.length : Int))) then (bif (decide ((0 : Int) ≤ v2) && decide (v2 < (v0.length : Int))) then (bif (decide ((0 : Int) ≤ v2) && decide (v2 < (v1.length : Int))) then (bif (!((List.getD v0 (Int.toNat v2) (dflt .str)) == (List.getD v1 (Int.toNat v2) (dflt .str)))) then some [⟨.bool, false⟩] else G 0 (rsame_C0 v0 v1 (w64 (v2 + (1 : Int))))) else none) else none) else some [⟨.bool, true⟩]
theorem rsame_l0 (G : Nat → ASt E → Option (List (TV E))) (v0 : List (List UInt8)) (v1 : List (List UInt8)) (v2 : Int) : runL rsame_O rsame_H G Tryz.f43 0 (rsame_C0 v0 v1 v2) = rsame_t0 G v0 v1 v2 := by kernel_rfl
theorem rsame_f : Tryz.prog.funcs[43]? = some Tryz.f43 := by kernel_rfl
theorem rsame_n : (Tryz.f43.name == "runtime.NumGoroutine") = false := by kernel_rfl
theorem rsame_b : Tryz.f43.body.isNone = false := by kernel_rfl
theorem rsame_hO : OracleOk E rsame_O := orac_ok .nil .nil .nil .nil
theorem rsame_s0 {res : List (TV E)} {v0 : List (List UInt8)} {v1 : List (List UInt8)} {v2 : Int} (h : rsame_t0 (Gr E Tryz.f43 res) v0 v1 v2 = some res) : Ev E Tryz.f43 res 0 (rsame_C0 v0 v1 v2) := Ev.step rsame_hO mix ((rsame_l0 _ v0 v1 v2).trans h)
theorem rsame_ok_of (h : ∀ (x0 : List (List UInt8)) (x1 : List (List UInt8)), (fun a _ => ln6 a) x0 x1 = true → rsame_t (Gr E Tryz.f43 [⟨.bool, equal x0 x1⟩]) x0 x1 = some [⟨.bool, equal x0 x1⟩]) : FnOk E rsame_id rsame_W := fn2_ok rsame_hO mix rsame_f rsame_n rsame_b (fun x0 x1 hk => (rsame_e _ x0 x1).trans (h x0 x1 hk))
theorem rsame_loop (a b : List (List UInt8)) (ha : a.length ≤ 1000000) (hab : a.length = b.length) : ∀ (m i : Nat), a.length - i = m → i ≤ a.length → Ev E Tryz.f43 [⟨.bool, a.drop i == b.drop i⟩] 0 (rsame_C0 a b i) := by
  intro m
  induction m with
  | zero =>
    intro i h1 h2
    refine rsame_s0 ?_
    simp only [rsame_t0, dge (show a.length ≤ i by omega), cond_false, List.drop_eq_nil_of_le (show a.length ≤ i by omega), List.drop_eq_nil_of_le (show b.length ≤ i by omega)]
    rfl
  | succ m ih =>
    intro i h1 h2
    have hi : i < a.length := by omega
    have hj : i < b.length := by omega
    refine rsame_s0 ?_
    simp only [rsame_t0, dlt hi, dlt hj, d0, gd a _ i hi, gd b _ i hj, Bool.and_self, cond_true]
    rw [← List.getElem_cons_drop hi, ← List.getElem_cons_drop hj, w64_id (by omega) (by omega)]
    by_cases hs : a[i] = b[i]
    · have e : (a[i] :: a.drop (i + 1) == b[i] :: b.drop (i + 1)) = (a.drop (i + 1) == b.drop (i + 1)) := by rw [List.cons_beq_cons]; simp [hs]
      rw [e, show (a[i] == b[i]) = true from by simpa using hs]
      exact Gr_of (ih (i + 1) (by omega) (by omega))
    · have e : (a[i] :: a.drop (i + 1) == b[i] :: b.drop (i + 1)) = false := by rw [List.cons_beq_cons]; simp [hs]
      rw [e, show (a[i] == b[i]) = false from by simpa using hs]
      rfl
theorem rsame_ok : FnOk E rsame_id rsame_W := rsame_ok_of fun a b hk => by
  simp only [rsame_t]
  by_cases h : a.length = b.length
  · rw [neF (by omega), cond_false]
    have := rsame_loop a b (ln6_iff.1 hk) h a.length 0 (by omega) (by omega)
    rw [List.drop_zero, List.drop_zero] at this
    exact Gr_of this
  · rw [neT (by omega), cond_true]
    have : equal a b = false := by simp only [equal, beq_eq_false_iff_ne]; exact fun e => h (by rw [e])
    rw [this]
end Go.Proofs.YtgniedpgdjmfpaaGreatDoor.Rf
