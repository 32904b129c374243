/- The reference's words (15): there is a result, by the Mirror. -/
import Derived.Test.YtoelhlikomifjaaGreatR6
namespace Go.Proofs.YtoelhlikomifjaaGreat.Rf
open Go Go.RowKit Go.Sort Go.Proofs.YtoelhlikomifjaaGreat.Mir
/-! ### The reference's words (15) -/
def blankB (c : Int) : Bool := bif c == 32 then true else c == 9
noncomputable def rblank_W : FnW E := fn1 (E := E) .byte .bool (fun _ => true) blankB
def rblank_id : FuncId := 90
noncomputable def rblank_O : Oracle E := orac [] [] [] []
noncomputable def rblank_H : Hint E := Hint.mk [] [] [] [] []
noncomputable def rblank_t (_G : Nat → ASt E → Option (List (TV E))) (x0 : Int) : Option (List (TV E)) :=
  some [⟨.bool, (bif (x0 == (32 : Int)) then true else (x0 == (9 : Int)))⟩]
theorem rblank_e (G : Nat → ASt E → Option (List (TV E))) (x0 : Int) : runE rblank_O rblank_H G Tryz.f90 [⟨.byte, x0⟩] = rblank_t G x0 := by kernel_rfl
theorem rblank_f : Tryz.prog.funcs[90]? = some Tryz.f90 := by kernel_rfl
theorem rblank_n : (Tryz.f90.name == "runtime.NumGoroutine") = false := by kernel_rfl
theorem rblank_b : Tryz.f90.body.isNone = false := by kernel_rfl
theorem rblank_ex : ∃ fn, Tryz.prog.funcs[90]? = some fn ∧ (fn.name == "runtime.NumGoroutine") = false ∧ fn.body.isNone = false := ⟨Tryz.f90, rblank_f, rblank_n, rblank_b⟩
theorem rblank_hO : OracleOk E rblank_O := orac_ok .nil .nil .nil .nil
theorem rblank_ok_of (h : ∀ (x0 : Int), rblank_t (Gr E Tryz.f90 [⟨.bool, blankB x0⟩]) x0 = some [⟨.bool, blankB x0⟩]) : FnOk E rblank_id rblank_W := fn1_ok rblank_hO mix rblank_f rblank_n rblank_b (fun x0 _ => (rblank_e _ x0).trans (h x0))
theorem rblank_ok : FnOk E rblank_id rblank_W := rblank_ok_of fun c => rfl
def okPc (s : List UInt8) (a : Int) : Bool := decide (s.length ≤ 1000000) && decide (0 ≤ a) && decide (a < (s.length : Int))
theorem okPc_iff {s : List UInt8} {a : Int} : okPc s a = true ↔ (s.length ≤ 1000000 ∧ 0 ≤ a) ∧ a < (s.length : Int) := by simp [okPc]
def pcPr (s : List UInt8) (a : Int) (p : List UInt8 × Int) : Prop := p.2 < 0 ∨ (a < p.2 ∧ p.2 ≤ (s.length : Int) ∧ (p.1.length : Int) + a ≤ p.2)
noncomputable def rpiece_O : Oracle E := orac [] [] [] []
noncomputable def rpiece_H : Hint E := Hint.mk [(0, [0, 1, 7]), (1, [0, 1, 8])] [] [] [] []
noncomputable def rpiece_C0 (v0 : List UInt8) (v1 : Int) (v2 : Int) : ASt E := ASt.mk 109 [(0, .d (.str v0)), (1, .d (.int .i64 v1)), (7, .d (.int .i64 v2))] [] 0
noncomputable def rpiece_C1 (v0 : List UInt8) (v1 : Int) (v2 : List UInt8) : ASt E := ASt.mk 109 [(0, .d (.str v0)), (1, .d (.int .i64 v1)), (8, .d (.str v2))] [] 0
noncomputable def rpiece_t (G : Nat → ASt E → Option (List (TV E))) (x0 : List UInt8) (x1 : Int) : Option (List (TV E)) :=
  bif (decide ((0 : Int) ≤ x1) && decide (x1 < (x0.length : Int))) then (bif ((((List.getD x0 (Int.toNat x1) 0).toNat : Nat) : Int) == (92 : Int)) then (bif ((w64 (x1 + (1 : Int))) == (x0.length : Int)) then some [⟨.str, ([] : List UInt8)⟩, ⟨.int, (-1 : Int)⟩] else (bif (decide ((0 : Int) ≤ (w64 (x1 + (1 : Int)))) && decide ((w64 (x1 + (1 : Int))) ≤ (w64 (x1 + (2 : Int)))) && decide ((w64 (x1 + (2 : Int))) ≤ (x0.length : Int))) then some [⟨.str, (List.take (Int.toNat (w64 (x1 + (2 : Int))) - Int.toNat (w64 (x1 + (1 : Int)))) (List.drop (Int.toNat (w64 (x1 + (1 : Int)))) x0))⟩, ⟨.int, (w64 (x1 + (2 : Int)))⟩] else none)) else (bif ((((List.getD x0 (Int.toNat x1) 0).toNat : Nat) : Int) == (39 : Int)) then G 0 (rpiece_C0 x0 x1 (w64 (x1 + (1 : Int)))) else (bif ((((List.getD x0 (Int.toNat x1) 0).toNat : Nat) : Int) != (34 : Int)) then (bif (decide ((0 : Int) ≤ x1) && decide (x1 ≤ (w64 (x1 + (1 : Int)))) && decide ((w64 (x1 + (1 : Int))) ≤ (x0.length : Int))) then some [⟨.str, (List.take (Int.toNat (w64 (x1 + (1 : Int))) - Int.toNat x1) (List.drop (Int.toNat x1) x0))⟩, ⟨.int, (w64 (x1 + (1 : Int)))⟩] else none) else G 1 (rpiece_C1 x0 (w64 (x1 + (1 : Int))) ([] : List UInt8))))) else none
theorem rpiece_e (G : Nat → ASt E → Option (List (TV E))) (x0 : List UInt8) (x1 : Int) : runE rpiece_O rpiece_H G Tryz.f91 [⟨.str, x0⟩, ⟨.int, x1⟩] = rpiece_t G x0 x1 := by kernel_rfl
noncomputable def rpiece_t0 (G : Nat → ASt E → Option (List (TV E))) (v0 : List UInt8) (v1 : Int) (v2 : Int) : Option (List (TV E)) :=
  bif (decide (v2 < (v0.length : Int))) then (bif (decide ((0 : Int) ≤ v2) && decide (v2 < (v0.length : Int))) then (bif ((((List.getD v0 (Int.toNat v2) 0).toNat : Nat) : Int) == (39 : Int)) then (bif (decide ((0 : Int) ≤ (w64 (v1 + (1 : Int)))) && decide ((w64 (v1 + (1 : Int))) ≤ v2) && decide (v2 ≤ (v0.length : Int))) then some [⟨.str, (List.take (Int.toNat v2 - Int.toNat (w64 (v1 + (1 : Int)))) (List.drop (Int.toNat (w64 (v1 + (1 : Int)))) v0))⟩, ⟨.int, (w64 (v2 + (1 : Int)))⟩] else none) else G 0 (rpiece_C0 v0 v1 (w64 (v2 + (1 : Int))))) else none) else some [⟨.str, ([] : List UInt8)⟩, ⟨.int, (-1 : Int)⟩]
theorem rpiece_l0 (G : Nat → ASt E → Option (List (TV E))) (v0 : List UInt8) (v1 : Int) (v2 : Int) : runL rpiece_O rpiece_H G Tryz.f91 0 (rpiece_C0 v0 v1 v2) = rpiece_t0 G v0 v1 v2 := by kernel_rfl
noncomputable def rpiece_t1 (G : Nat → ASt E → Option (List (TV E))) (v0 : List UInt8) (v1 : Int) (v2 : List UInt8) : Option (List (TV E)) :=
  bif (decide (v1 < (v0.length : Int))) then (bif (decide ((0 : Int) ≤ v1) && decide (v1 < (v0.length : Int))) then (bif ((((List.getD v0 (Int.toNat v1) 0).toNat : Nat) : Int) == (34 : Int)) then some [⟨.str, v2⟩, ⟨.int, (w64 (v1 + (1 : Int)))⟩] else (bif (decide ((0 : Int) ≤ v1) && decide (v1 < (v0.length : Int))) then (bif ((((List.getD v0 (Int.toNat v1) 0).toNat : Nat) : Int) == (92 : Int)) then (bif ((w64 (v1 + (1 : Int))) == (v0.length : Int)) then some [⟨.str, ([] : List UInt8)⟩, ⟨.int, (-1 : Int)⟩] else (bif (decide ((0 : Int) ≤ (w64 (v1 + (1 : Int)))) && decide ((w64 (v1 + (1 : Int))) < (v0.length : Int))) then (bif ((decide ((0 : Int) ≤ (w64 (v1 + (1 : Int)))) && decide ((w64 (v1 + (1 : Int))) < (v0.length : Int))) || !((((List.getD v0 (Int.toNat (w64 (v1 + (1 : Int)))) 0).toNat : Nat) : Int) != (34 : Int))) then (bif (bif ((((List.getD v0 (Int.toNat (w64 (v1 + (1 : Int)))) 0).toNat : Nat) : Int) != (34 : Int)) then ((((List.getD v0 (Int.toNat (w64 (v1 + (1 : Int)))) 0).toNat : Nat) : Int) != (92 : Int)) else false) then (bif (decide ((0 : Int) ≤ v1) && decide (v1 ≤ (w64 (v1 + (1 : Int)))) && decide ((w64 (v1 + (1 : Int))) ≤ (v0.length : Int))) then (bif (decide (v2.length + (List.take (Int.toNat (w64 (v1 + (1 : Int))) - Int.toNat v1) (List.drop (Int.toNat v1) v0)).length ≤ maxStr)) then (bif (decide ((0 : Int) ≤ (w64 (v1 + (1 : Int)))) && decide ((w64 (v1 + (1 : Int))) ≤ (w64 ((w64 (v1 + (1 : Int))) + (1 : Int)))) && decide ((w64 ((w64 (v1 + (1 : Int))) + (1 : Int))) ≤ (v0.length : Int))) then (bif (decide ((v2 ++ (List.take (Int.toNat (w64 (v1 + (1 : Int))) - Int.toNat v1) (List.drop (Int.toNat v1) v0))).length + (List.take (Int.toNat (w64 ((w64 (v1 + (1 : Int))) + (1 : Int))) - Int.toNat (w64 (v1 + (1 : Int)))) (List.drop (Int.toNat (w64 (v1 + (1 : Int)))) v0)).length ≤ maxStr)) then G 1 (rpiece_C1 v0 (w64 ((w64 (v1 + (1 : Int))) + (1 : Int))) ((v2 ++ (List.take (Int.toNat (w64 (v1 + (1 : Int))) - Int.toNat v1) (List.drop (Int.toNat v1) v0))) ++ (List.take (Int.toNat (w64 ((w64 (v1 + (1 : Int))) + (1 : Int))) - Int.toNat (w64 (v1 + (1 : Int)))) (List.drop (Int.toNat (w64 (v1 + (1 : Int)))) v0)))) else none) else none) else none) else none) else (bif (decide ((0 : Int) ≤ (w64 (v1 + (1 : Int)))) && decide ((w64 (v1 + (1 : Int))) ≤ (w64 ((w64 (v1 + (1 : Int))) + (1 : Int)))) && decide ((w64 ((w64 (v1 + (1 : Int))) + (1 : Int))) ≤ (v0.length : Int))) then (bif (decide (v2.length + (List.take (Int.toNat (w64 ((w64 (v1 + (1 : Int))) + (1 : Int))) - Int.toNat (w64 (v1 + (1 : Int)))) (List.drop (Int.toNat (w64 (v1 + (1 : Int)))) v0)).length ≤ maxStr)) then G 1 (rpiece_C1 v0 (w64 ((w64 (v1 + (1 : Int))) + (1 : Int))) (v2 ++ (List.take (Int.toNat (w64 ((w64 (v1 + (1 : Int))) + (1 : Int))) - Int.toNat (w64 (v1 + (1 : Int)))) (List.drop (Int.toNat (w64 (v1 + (1 : Int)))) v0)))) else none) else none)) else none) else none)) else (bif (decide ((0 : Int) ≤ v1) && decide (v1 ≤ (w64 (v1 + (1 : Int)))) && decide ((w64 (v1 + (1 : Int))) ≤ (v0.length : Int))) then (bif (decide (v2.length + (List.take (Int.toNat (w64 (v1 + (1 : Int))) - Int.toNat v1) (List.drop (Int.toNat v1) v0)).length ≤ maxStr)) then G 1 (rpiece_C1 v0 (w64 (v1 + (1 : Int))) (v2 ++ (List.take (Int.toNat (w64 (v1 + (1 : Int))) - Int.toNat v1) (List.drop (Int.toNat v1) v0)))) else none) else none)) else none)) else none) else some [⟨.str, ([] : List UInt8)⟩, ⟨.int, (-1 : Int)⟩]
theorem rpiece_l1 (G : Nat → ASt E → Option (List (TV E))) (v0 : List UInt8) (v1 : Int) (v2 : List UInt8) : runL rpiece_O rpiece_H G Tryz.f91 1 (rpiece_C1 v0 v1 v2) = rpiece_t1 G v0 v1 v2 := by kernel_rfl
theorem rpiece_f : Tryz.prog.funcs[91]? = some Tryz.f91 := by kernel_rfl
theorem rpiece_n : (Tryz.f91.name == "runtime.NumGoroutine") = false := by kernel_rfl
theorem rpiece_b : Tryz.f91.body.isNone = false := by kernel_rfl
theorem rpiece_ex : ∃ fn, Tryz.prog.funcs[91]? = some fn ∧ (fn.name == "runtime.NumGoroutine") = false ∧ fn.body.isNone = false := ⟨Tryz.f91, rpiece_f, rpiece_n, rpiece_b⟩
theorem rpiece_hO : OracleOk E rpiece_O := orac_ok .nil .nil .nil .nil
theorem rpiece_s0 {res : List (TV E)} {v0 : List UInt8} {v1 : Int} {v2 : Int} (h : rpiece_t0 (Gr E Tryz.f91 res) v0 v1 v2 = some res) : Ev E Tryz.f91 res 0 (rpiece_C0 v0 v1 v2) := Ev.step rpiece_hO mix ((rpiece_l0 _ v0 v1 v2).trans h)
theorem rpiece_s1 {res : List (TV E)} {v0 : List UInt8} {v1 : Int} {v2 : List UInt8} (h : rpiece_t1 (Gr E Tryz.f91 res) v0 v1 v2 = some res) : Ev E Tryz.f91 res 1 (rpiece_C1 v0 v1 v2) := Ev.step rpiece_hO mix ((rpiece_l1 _ v0 v1 v2).trans h)
def rpiece_any (x0 : List UInt8) (x1 : Int) (p : (List UInt8) × Int) : Prop := rpiece_t (Gr E Tryz.f91 [⟨.str, p.1⟩, ⟨.int, p.2⟩]) x0 x1 = some [⟨.str, p.1⟩, ⟨.int, p.2⟩] ∧ pcPr x0 x1 p
noncomputable def rpiece_p (x0 : List UInt8) (x1 : Int) : (List UInt8) × Int := @Classical.epsilon _ ⟨(dflt .str, dflt .int)⟩ (rpiece_any x0 x1)
noncomputable def rpiece_r0 (x0 : List UInt8) (x1 : Int) : List UInt8 := (rpiece_p x0 x1).1
noncomputable def rpiece_r1 (x0 : List UInt8) (x1 : Int) : Int := (rpiece_p x0 x1).2
theorem rpiece_spec (x0 : List UInt8) (x1 : Int) (h : ∃ p, rpiece_any x0 x1 p) : rpiece_any x0 x1 (rpiece_p x0 x1) := Classical.epsilon_spec h
noncomputable def rpiece_W : FnW E := fn22 (E := E) .str .int .str .int okPc rpiece_r0 rpiece_r1
def rpiece_id : FuncId := 91
theorem rpiece_ok_of (h : ∀ (x0 : List UInt8) (x1 : Int), okPc x0 x1 = true → rpiece_t (Gr E Tryz.f91 [⟨.str, rpiece_r0 x0 x1⟩, ⟨.int, rpiece_r1 x0 x1⟩]) x0 x1 = some [⟨.str, rpiece_r0 x0 x1⟩, ⟨.int, rpiece_r1 x0 x1⟩]) : FnOk E rpiece_id rpiece_W := fn22_ok rpiece_hO mix rpiece_f rpiece_n rpiece_b (fun x0 x1 hk => (rpiece_e _ x0 x1).trans (h x0 x1 hk))
theorem rpiece_0 (s : List UInt8) (hs : s.length ≤ 1000000) (a : Nat) : ∀ (m i : Nat), s.length - i = m → a + 1 ≤ i → i ≤ s.length →
    ∃ p : List UInt8 × Int, pcPr s a p ∧ Ev E Tryz.f91 [⟨.str, p.1⟩, ⟨.int, p.2⟩] 0 (rpiece_C0 s a i) := by
  intro m
  induction m with
  | zero =>
    intro i h1 h2 h3
    refine anyS (fun _ h => rpiece_s0 h) ?_
    simp only [rpiece_t0, dge (show s.length ≤ i by omega), cond_false]
    exact ⟨(_, _), .inl (by simp), rfl⟩
  | succ m ih =>
    intro i h1 h2 h3
    have hi : i < s.length := by omega
    have e1 : w64 ((i : Int) + 1) = ((i + 1 : Nat) : Int) := by rw [w64_id (by omega) (by omega)]; omega
    have e2 : w64 ((a : Int) + 1) = ((a + 1 : Nat) : Int) := by rw [w64_id (by omega) (by omega)]; omega
    refine anyS (fun _ h => rpiece_s0 h) ?_
    simp only [rpiece_t0, dlt hi, d0, Bool.and_self, cond_true, e1, e2, Int.toNat_natCast, dle h2, dle h3]
    cases ((List.getD s i 0).toNat : Int) == 39 with
    | true => exact ⟨(_, ((i + 1 : Nat) : Int)), .inr ⟨by simp only; omega, by simp only; omega, by simp only [List.length_take, List.length_drop]; omega⟩, rfl⟩
    | false => exact anyS (fun _ h => Gr_of h) (ih (i + 1) (by omega) (by omega) (by omega))
theorem rpiece_1 (s : List UInt8) (hs : s.length ≤ 1000000) (a0 : Nat) : ∀ (m a : Nat) (out : List UInt8), s.length - a ≤ m → a0 + 1 ≤ a → a ≤ s.length → out.length + a0 + 1 ≤ a →
    ∃ p : List UInt8 × Int, pcPr s a0 p ∧ Ev E Tryz.f91 [⟨.str, p.1⟩, ⟨.int, p.2⟩] 1 (rpiece_C1 s a out) := by
  intro m
  induction m with
  | zero =>
    intro a out h1 h2 h3 h4
    refine anyS (fun _ h => rpiece_s1 h) ?_
    simp only [rpiece_t1, dge (show s.length ≤ a by omega), cond_false]
    exact ⟨(_, _), .inl (by simp), rfl⟩
  | succ m ih =>
    intro a out h1 h2 h3 h4
    refine anyS (fun _ h => rpiece_s1 h) ?_
    by_cases hi : a < s.length
    · have e1 : w64 ((a : Int) + 1) = ((a + 1 : Nat) : Int) := by rw [w64_id (by omega) (by omega)]; omega
      have e2 : w64 (((a + 1 : Nat) : Int) + 1) = ((a + 2 : Nat) : Int) := by rw [w64_id (by omega) (by omega)]; omega
      simp only [rpiece_t1, dlt hi, d0, Bool.and_self, cond_true, e1, e2, Int.toNat_natCast, dle (show a ≤ a + 1 by omega), dle (show a + 1 ≤ s.length by omega)]
      cases ((List.getD s a 0).toNat : Int) == 34 with
      | true => exact ⟨(out, ((a + 1 : Nat) : Int)), .inr ⟨by simp only; omega, by simp only; omega, by simp only; omega⟩, rfl⟩
      | false =>
        simp only [cond_false]
        have c1 : (List.take (a + 1 - a) (List.drop a s)).length ≤ 1 := by simp only [List.length_take]; omega
        have c2 : (List.take (a + 2 - (a + 1)) (List.drop (a + 1) s)).length ≤ 1 := by simp only [List.length_take]; omega
        cases ((List.getD s a 0).toNat : Int) == 92 with
        | false =>
          rw [msT (show out.length + (List.take (a + 1 - a) (List.drop a s)).length ≤ 4611686018427387904 by omega)]
          exact anyS (fun _ h => Gr_of h) (ih (a + 1) _ (by omega) (by omega) (by omega) (by rw [List.length_append]; omega))
        | true =>
          simp only [cond_true]
          by_cases hl : a + 1 = s.length
          · rw [eqT (show ((a + 1 : Nat) : Int) = (s.length : Int) by omega)]
            exact ⟨(_, _), .inl (by simp), rfl⟩
          · rw [eqF (show ((a + 1 : Nat) : Int) ≠ (s.length : Int) by omega)]
            simp only [cond_false, dlt (show a + 1 < s.length by omega), Bool.true_or, cond_true, dle (show a + 1 ≤ a + 2 by omega), dle (show a + 2 ≤ s.length by omega), Bool.and_self]
            rw [msT (show out.length + (List.take (a + 1 - a) (List.drop a s)).length ≤ 4611686018427387904 by omega), msT (show (out ++ List.take (a + 1 - a) (List.drop a s)).length + (List.take (a + 2 - (a + 1)) (List.drop (a + 1) s)).length ≤ 4611686018427387904 by rw [List.length_append]; omega),
              msT (show out.length + (List.take (a + 2 - (a + 1)) (List.drop (a + 1) s)).length ≤ 4611686018427387904 by omega)]
            simp only [cond_true]
            cases (bif ((List.getD s (a + 1) 0).toNat : Int) != 34 then ((List.getD s (a + 1) 0).toNat : Int) != 92 else false) with
            | true => exact anyS (fun _ h => Gr_of h) (ih (a + 2) _ (by omega) (by omega) (by omega) (by rw [List.length_append, List.length_append]; omega))
            | false => exact anyS (fun _ h => Gr_of h) (ih (a + 2) _ (by omega) (by omega) (by omega) (by rw [List.length_append]; omega))
    · simp only [rpiece_t1, dge (show s.length ≤ a by omega), cond_false]
      exact ⟨(_, _), .inl (by simp), rfl⟩
theorem rpiece_tot (s : List UInt8) (a : Int) (hk : okPc s a = true) : ∃ p, rpiece_any s a p := by
  obtain ⟨⟨hs, h0⟩, h1⟩ := okPc_iff.1 hk
  obtain ⟨n, rfl⟩ : ∃ n : Nat, a = n := ⟨a.toNat, by omega⟩
  have hn : n < s.length := by omega
  have e1 : w64 ((n : Int) + 1) = ((n + 1 : Nat) : Int) := by rw [w64_id (by omega) (by omega)]; omega
  have e2 : w64 ((n : Int) + 2) = ((n + 2 : Nat) : Int) := by rw [w64_id (by omega) (by omega)]; omega
  have flip : (∃ p, pcPr s n p ∧ rpiece_t (Gr E Tryz.f91 [⟨.str, p.1⟩, ⟨.int, p.2⟩]) s n = some [⟨.str, p.1⟩, ⟨.int, p.2⟩]) → ∃ p, rpiece_any s n p := fun ⟨p, h1, h2⟩ => ⟨p, h2, h1⟩
  refine flip ?_
  simp only [rpiece_t, dlt hn, d0, Bool.and_self, cond_true, e1, e2, Int.toNat_natCast, dle (show n ≤ n + 1 by omega), dle (show n + 1 ≤ s.length by omega)]
  cases ((List.getD s n 0).toNat : Int) == 92 with
  | true =>
    simp only [cond_true]
    by_cases hl : n + 1 = s.length
    · rw [eqT (show ((n + 1 : Nat) : Int) = (s.length : Int) by omega)]
      exact ⟨(_, _), .inl (by simp), rfl⟩
    · rw [eqF (show ((n + 1 : Nat) : Int) ≠ (s.length : Int) by omega)]
      simp only [cond_false, dle (show n + 1 ≤ n + 2 by omega), dle (show n + 2 ≤ s.length by omega), Bool.and_self, cond_true]
      exact ⟨(_, ((n + 2 : Nat) : Int)), .inr ⟨by simp only; omega, by simp only; omega, by simp only [List.length_take]; omega⟩, rfl⟩
  | false =>
    simp only [cond_false]
    cases ((List.getD s n 0).toNat : Int) == 39 with
    | true => exact anyS (fun _ h => Gr_of h) (rpiece_0 s hs n _ (n + 1) rfl (Nat.le_refl _) (by omega))
    | false =>
      cases ((List.getD s n 0).toNat : Int) != 34 with
      | true => exact ⟨(_, ((n + 1 : Nat) : Int)), .inr ⟨by simp only; omega, by simp only; omega, by simp only [List.length_take]; omega⟩, rfl⟩
      | false => exact anyS (fun _ h => Gr_of h) (rpiece_1 s hs n _ (n + 1) [] (Nat.le_refl _) (Nat.le_refl _) (by omega) (by simp))
theorem rpiece_ok : FnOk E rpiece_id rpiece_W := rpiece_ok_of fun s a hk => (rpiece_spec s a (rpiece_tot s a hk)).1
theorem rpiece_pr {s : List UInt8} {a : Int} (hk : okPc s a = true) : rpiece_r1 s a < 0 ∨ (a < rpiece_r1 s a ∧ rpiece_r1 s a ≤ (s.length : Int) ∧ ((rpiece_r0 s a).length : Int) + a ≤ rpiece_r1 s a) := (rpiece_spec s a (rpiece_tot s a hk)).2
def wsPr (_ : List UInt8) (p : List (List UInt8) × Int) : Prop := p.1.length ≤ 32
noncomputable def rwsplit_O : Oracle E := orac [(90, rblank_W), (91, rpiece_W)] [] [] []
noncomputable def rwsplit_H : Hint E := Hint.mk [(0, [0, 4, 5]), (1, [0, 4, 5, 6])] [] [] [] []
noncomputable def rwsplit_C0 (v0 : List UInt8) (v1 : Nat) (v2 : Int) (v3 : List (List UInt8)) : ASt E := ASt.mk 51 [(0, .d (.str v0)), (4, .row .str v1 0), (5, .d (.int .i64 v2))] [(0, .row .str v3)] 1
noncomputable def rwsplit_C1 (v0 : List UInt8) (v1 : Nat) (v2 : Int) (v3 : List UInt8) (v4 : List (List UInt8)) : ASt E := ASt.mk 51 [(0, .d (.str v0)), (4, .row .str v1 0), (5, .d (.int .i64 v2)), (6, .d (.str v3))] [(0, .row .str v4)] 1
noncomputable def rwsplit_t (G : Nat → ASt E → Option (List (TV E))) (x0 : List UInt8) : Option (List (TV E)) :=
  G 0 (rwsplit_C0 x0 0 (0 : Int) ([] : List (List UInt8)))
theorem rwsplit_e (G : Nat → ASt E → Option (List (TV E))) (x0 : List UInt8) : runE rwsplit_O rwsplit_H G Tryz.f61 [⟨.str, x0⟩] = rwsplit_t G x0 := by kernel_rfl
noncomputable def rwsplit_t0 (G : Nat → ASt E → Option (List (TV E))) (v0 : List UInt8) (v1 : Nat) (v2 : Int) (v3 : List (List UInt8)) : Option (List (TV E)) :=
  bif (decide (v2 < (v0.length : Int))) then (bif (decide ((0 : Int) ≤ v2) && decide (v2 < (v0.length : Int))) then (bif (blankB (((List.getD v0 (Int.toNat v2) 0).toNat : Nat) : Int)) then G 0 (rwsplit_C0 v0 v1 (w64 (v2 + (1 : Int))) v3) else G 1 (rwsplit_C1 v0 v1 v2 ([] : List UInt8) v3)) else none) else (bif (decide ((32 : Int) < ((v1 : Nat) : Int))) then some [⟨.l_str, ([] : List (List UInt8))⟩, ⟨.api_Errno, (9 : Int)⟩] else some [⟨.l_str, v3⟩, ⟨.api_Errno, (0 : Int)⟩])
theorem rwsplit_l0 (G : Nat → ASt E → Option (List (TV E))) (v0 : List UInt8) (v1 : Nat) (v2 : Int) (v3 : List (List UInt8)) : runL rwsplit_O rwsplit_H G Tryz.f61 0 (rwsplit_C0 v0 v1 v2 v3) = rwsplit_t0 G v0 v1 v2 v3 := by kernel_rfl
noncomputable def rwsplit_t1 (G : Nat → ASt E → Option (List (TV E))) (v0 : List UInt8) (v1 : Nat) (v2 : Int) (v3 : List UInt8) (v4 : List (List UInt8)) : Option (List (TV E)) :=
  bif ((decide ((0 : Int) ≤ v2) && decide (v2 < (v0.length : Int))) || !(decide (v2 < (v0.length : Int)))) then (bif (bif (decide (v2 < (v0.length : Int))) then (!(blankB (((List.getD v0 (Int.toNat v2) 0).toNat : Nat) : Int))) else false) then (bif (okPc v0 v2) then (bif (decide ((rpiece_r1 v0 v2) < (0 : Int))) then some [⟨.l_str, ([] : List (List UInt8))⟩, ⟨.api_Errno, (3 : Int)⟩] else (bif (decide (v3.length + (rpiece_r0 v0 v2).length ≤ maxStr)) then G 1 (rwsplit_C1 v0 v1 (rpiece_r1 v0 v2) (v3 ++ (rpiece_r0 v0 v2)) v4) else none)) else none) else (bif (decide ((v4.length + ([v3] : List (List UInt8)).length) * 16 ≤ maxBytes)) then G 0 (rwsplit_C0 v0 (v4.length + ([v3] : List (List UInt8)).length) v2 (v4 ++ ([v3] : List (List UInt8)))) else none)) else none
theorem rwsplit_l1 (G : Nat → ASt E → Option (List (TV E))) (v0 : List UInt8) (v1 : Nat) (v2 : Int) (v3 : List UInt8) (v4 : List (List UInt8)) : runL rwsplit_O rwsplit_H G Tryz.f61 1 (rwsplit_C1 v0 v1 v2 v3 v4) = rwsplit_t1 G v0 v1 v2 v3 v4 := by kernel_rfl
theorem rwsplit_f : Tryz.prog.funcs[61]? = some Tryz.f61 := by kernel_rfl
theorem rwsplit_n : (Tryz.f61.name == "runtime.NumGoroutine") = false := by kernel_rfl
theorem rwsplit_b : Tryz.f61.body.isNone = false := by kernel_rfl
theorem rwsplit_ex : ∃ fn, Tryz.prog.funcs[61]? = some fn ∧ (fn.name == "runtime.NumGoroutine") = false ∧ fn.body.isNone = false := ⟨Tryz.f61, rwsplit_f, rwsplit_n, rwsplit_b⟩
theorem rwsplit_hO : OracleOk E rwsplit_O := orac_ok (.cons rblank_ok (.cons rpiece_ok .nil)) .nil .nil .nil
theorem rwsplit_s0 {res : List (TV E)} {v0 : List UInt8} {v1 : Nat} {v2 : Int} {v3 : List (List UInt8)} (h : rwsplit_t0 (Gr E Tryz.f61 res) v0 v1 v2 v3 = some res) : Ev E Tryz.f61 res 0 (rwsplit_C0 v0 v1 v2 v3) := Ev.step rwsplit_hO mix ((rwsplit_l0 _ v0 v1 v2 v3).trans h)
theorem rwsplit_s1 {res : List (TV E)} {v0 : List UInt8} {v1 : Nat} {v2 : Int} {v3 : List UInt8} {v4 : List (List UInt8)} (h : rwsplit_t1 (Gr E Tryz.f61 res) v0 v1 v2 v3 v4 = some res) : Ev E Tryz.f61 res 1 (rwsplit_C1 v0 v1 v2 v3 v4) := Ev.step rwsplit_hO mix ((rwsplit_l1 _ v0 v1 v2 v3 v4).trans h)
def rwsplit_any (x0 : List UInt8) (p : (List (List UInt8)) × Int) : Prop := rwsplit_t (Gr E Tryz.f61 [⟨.l_str, p.1⟩, ⟨.api_Errno, p.2⟩]) x0 = some [⟨.l_str, p.1⟩, ⟨.api_Errno, p.2⟩] ∧ wsPr x0 p
noncomputable def rwsplit_p (x0 : List UInt8) : (List (List UInt8)) × Int := @Classical.epsilon _ ⟨(dflt .l_str, dflt .api_Errno)⟩ (rwsplit_any x0)
noncomputable def rwsplit_r0 (x0 : List UInt8) : List (List UInt8) := (rwsplit_p x0).1
noncomputable def rwsplit_r1 (x0 : List UInt8) : Int := (rwsplit_p x0).2
theorem rwsplit_spec (x0 : List UInt8) (h : ∃ p, rwsplit_any x0 p) : rwsplit_any x0 (rwsplit_p x0) := Classical.epsilon_spec h
noncomputable def rwsplit_W : FnW E := fn12 (E := E) .str .l_str .api_Errno okL1 rwsplit_r0 rwsplit_r1
def rwsplit_id : FuncId := 61
theorem rwsplit_ok_of (h : ∀ (x0 : List UInt8), okL1 x0 = true → rwsplit_t (Gr E Tryz.f61 [⟨.l_str, rwsplit_r0 x0⟩, ⟨.api_Errno, rwsplit_r1 x0⟩]) x0 = some [⟨.l_str, rwsplit_r0 x0⟩, ⟨.api_Errno, rwsplit_r1 x0⟩]) : FnOk E rwsplit_id rwsplit_W := fn12_ok rwsplit_hO mix rwsplit_f rwsplit_n rwsplit_b (fun x0 hk => (rwsplit_e _ x0).trans (h x0 hk))
abbrev wsG (s : List UInt8) (j : Nat) (S : ASt E) : Prop := ∃ p : List (List UInt8) × Int, wsPr s p ∧ Ev E Tryz.f61 [⟨.l_str, p.1⟩, ⟨.api_Errno, p.2⟩] j S
theorem rwsplit_fin (s : List UInt8) (i : Nat) (out : List (List UInt8)) (hi : s.length ≤ i) : wsG s 0 (rwsplit_C0 s out.length i out) := by
  refine anyS (fun _ h => rwsplit_s0 h) ?_
  simp only [rwsplit_t0, dge hi, cond_false]
  by_cases h : (32 : Int) < (out.length : Int)
  · rw [dT h]; exact ⟨(_, _), show ([] : List (List UInt8)).length ≤ 32 from Nat.zero_le _, rfl⟩
  · rw [dF h]; exact ⟨(_, _), show out.length ≤ 32 by omega, rfl⟩
theorem rwsplit_stop (s : List UInt8) (hs : s.length ≤ 1000000) (i : Nat) (K : ∀ (out : List (List UInt8)), out.length ≤ 2 * i + 1 → wsG s 0 (rwsplit_C0 s out.length i out)) (hi : i ≤ s.length)
    (hx : (bif decide ((i : Int) < (s.length : Int)) then !(blankB (((List.getD s i 0).toNat : Nat) : Int)) else false) = false) (hx1 : ((decide ((i : Int) < (s.length : Int))) || !(decide ((i : Int) < (s.length : Int)))) = true)
    (out : List (List UInt8)) (w : List UInt8) (v : Nat) (ho : out.length ≤ 2 * i) : wsG s 1 (rwsplit_C1 s v i w out) := by
  refine anyS (fun _ h => rwsplit_s1 h) ?_
  simp only [rwsplit_t1, d0, Bool.true_and, Int.toNat_natCast, hx, hx1, cond_true, cond_false]
  rw [dT (show (out.length + [w].length) * 16 ≤ maxBytes by rw [mb, List.length_singleton]; omega)]
  have := K (out ++ [w]) (by rw [List.length_append, List.length_singleton]; omega)
  rw [List.length_append] at this
  exact anyS (fun _ h => Gr_of h) this
theorem rwsplit_0 (s : List UInt8) (hs : s.length ≤ 1000000) : ∀ (m i : Nat), s.length - i ≤ m → i ≤ s.length →
    (∀ (out : List (List UInt8)), out.length ≤ 2 * i + 1 → wsG s 0 (rwsplit_C0 s out.length i out)) ∧
    (∀ (out : List (List UInt8)) (w : List UInt8) (v : Nat), out.length ≤ 2 * i → w.length ≤ i → wsG s 1 (rwsplit_C1 s v i w out)) := by
  intro m
  induction m with
  | zero =>
    intro i h1 h2
    have hd := dge (show s.length ≤ i by omega)
    have k := fun out (_ : out.length ≤ 2 * i + 1) => rwsplit_fin s i out (by omega)
    exact ⟨k, fun out w v ho _ => rwsplit_stop s hs i k h2 (by rw [hd]; rfl) (by rw [hd]; rfl) out w v ho⟩
  | succ m ih =>
    intro i h1 h2
    by_cases hi : i < s.length
    · have e1 : w64 ((i : Int) + 1) = ((i + 1 : Nat) : Int) := by rw [w64_id (by omega) (by omega)]; omega
      have hd := dlt hi
      cases hb : blankB (((List.getD s i 0).toNat : Nat) : Int) with
      | true =>
        have k : ∀ (out : List (List UInt8)), out.length ≤ 2 * i + 1 → wsG s 0 (rwsplit_C0 s out.length i out) := by
          intro out ho
          refine anyS (fun _ h => rwsplit_s0 h) ?_
          simp only [rwsplit_t0, hd, d0, Bool.and_self, cond_true, Int.toNat_natCast, hb, e1]
          exact anyS (fun _ h => Gr_of h) ((ih (i + 1) (by omega) (by omega)).1 out (by omega))
        exact ⟨k, fun out w v ho _ => rwsplit_stop s hs i k h2 (by rw [hd, hb]; rfl) (by rw [hd]; rfl) out w v ho⟩
      | false =>
        have c : ∀ (out : List (List UInt8)) (w : List UInt8) (v : Nat), out.length ≤ 2 * i + 1 → w.length ≤ i → wsG s 1 (rwsplit_C1 s v i w out) := by
          intro out w v ho hw
          have hok : okPc s (i : Int) = true := okPc_iff.2 ⟨⟨hs, by omega⟩, by omega⟩
          refine anyS (fun _ h => rwsplit_s1 h) ?_
          simp only [rwsplit_t1, hd, d0, Bool.and_self, Bool.true_or, cond_true, Int.toNat_natCast, hb, Bool.not_false, hok]
          rcases rpiece_pr hok with hn | ⟨q1, q2, q3⟩
          · rw [dT hn]; exact ⟨(_, _), show ([] : List (List UInt8)).length ≤ 32 from Nat.zero_le _, rfl⟩
          · obtain ⟨n, hnn⟩ : ∃ n : Nat, rpiece_r1 s i = n := ⟨(rpiece_r1 s i).toNat, by omega⟩
            rw [hnn] at q1 q2 q3 ⊢
            rw [dF (show ¬ (n : Int) < 0 by omega), msT (show w.length + (rpiece_r0 s i).length ≤ 4611686018427387904 by omega)]
            exact anyS (fun _ h => Gr_of h) ((ih n (by omega) (by omega)).2 out _ v (by omega) (by rw [List.length_append]; omega))
        refine ⟨fun out ho => ?_, fun out w v ho hw => c out w v (by omega) hw⟩
        refine anyS (fun _ h => rwsplit_s0 h) ?_
        simp only [rwsplit_t0, hd, d0, Bool.and_self, cond_true, Int.toNat_natCast, hb, cond_false]
        exact anyS (fun _ h => Gr_of h) (c out [] out.length ho (Nat.zero_le _))
    · have hd := dge (show s.length ≤ i by omega)
      have k := fun out (_ : out.length ≤ 2 * i + 1) => rwsplit_fin s i out (by omega)
      exact ⟨k, fun out w v ho _ => rwsplit_stop s hs i k h2 (by rw [hd]; rfl) (by rw [hd]; rfl) out w v ho⟩
theorem rwsplit_tot (s : List UInt8) (hs : s.length ≤ 1000000) : ∃ p, rwsplit_any s p := by
  obtain ⟨p, h1, hp⟩ := (rwsplit_0 s hs _ 0 (Nat.le_refl _) (Nat.zero_le _)).1 [] (Nat.zero_le _)
  exact ⟨p, Gr_of hp, h1⟩
theorem rwsplit_ok : FnOk E rwsplit_id rwsplit_W := rwsplit_ok_of fun s hk => (rwsplit_spec s (rwsplit_tot s (okL1_iff.1 hk))).1
theorem rwsplit_pr {s : List UInt8} (hs : s.length ≤ 1000000) : (rwsplit_r0 s).length ≤ 32 := (rwsplit_spec s (rwsplit_tot s hs)).2
noncomputable def rbare_O : Oracle E := orac [] [] [] []
noncomputable def rbare_H : Hint E := Hint.mk [(0, [0, 3, 4]), (1, [0, 3, 4, 5, 6, 7])] [] [] [] []
noncomputable def rbare_C0 (v0 : List UInt8) (v1 : List UInt8) (v2 : Int) : ASt E := ASt.mk 58 [(0, .d (.str v0)), (3, .d (.str v1)), (4, .d (.int .i64 v2))] [] 0
noncomputable def rbare_C1 (v0 : List UInt8) (v1 : List UInt8) (v2 : Int) (v3 : Int) (v4 : Bool) (v5 : Int) : ASt E := ASt.mk 58 [(0, .d (.str v0)), (3, .d (.str v1)), (4, .d (.int .i64 v2)), (5, .d (.int .u8 v3)), (6, .d (.bool v4)), (7, .d (.int .i64 v5))] [] 0
noncomputable def rbare_t (G : Nat → ASt E → Option (List (TV E))) (x0 : List UInt8) : Option (List (TV E)) :=
  G 0 (rbare_C0 x0 ([46, 95, 45, 47, 58, 61, 44, 43, 64, 37] : List UInt8) (0 : Int))
theorem rbare_e (G : Nat → ASt E → Option (List (TV E))) (x0 : List UInt8) : runE rbare_O rbare_H G Tryz.f111 [⟨.str, x0⟩] = rbare_t G x0 := by kernel_rfl
noncomputable def rbare_t0 (G : Nat → ASt E → Option (List (TV E))) (v0 : List UInt8) (v1 : List UInt8) (v2 : Int) : Option (List (TV E)) :=
  bif (decide (v2 < (v0.length : Int))) then (bif (decide ((0 : Int) ≤ v2) && decide (v2 < (v0.length : Int))) then G 1 (rbare_C1 v0 v1 v2 (((List.getD v0 (Int.toNat v2) 0).toNat : Nat) : Int) (bif (bif (bif (decide ((97 : Int) ≤ (((List.getD v0 (Int.toNat v2) 0).toNat : Nat) : Int))) then (decide ((((List.getD v0 (Int.toNat v2) 0).toNat : Nat) : Int) ≤ (122 : Int))) else false) then true else (bif (decide ((65 : Int) ≤ (((List.getD v0 (Int.toNat v2) 0).toNat : Nat) : Int))) then (decide ((((List.getD v0 (Int.toNat v2) 0).toNat : Nat) : Int) ≤ (90 : Int))) else false)) then true else (bif (decide ((48 : Int) ≤ (((List.getD v0 (Int.toNat v2) 0).toNat : Nat) : Int))) then (decide ((((List.getD v0 (Int.toNat v2) 0).toNat : Nat) : Int) ≤ (57 : Int))) else false)) (0 : Int)) else none) else some [⟨.bool, (decide ((0 : Int) < (v0.length : Int)))⟩]
theorem rbare_l0 (G : Nat → ASt E → Option (List (TV E))) (v0 : List UInt8) (v1 : List UInt8) (v2 : Int) : runL rbare_O rbare_H G Tryz.f111 0 (rbare_C0 v0 v1 v2) = rbare_t0 G v0 v1 v2 := by kernel_rfl
noncomputable def rbare_t1 (G : Nat → ASt E → Option (List (TV E))) (v0 : List UInt8) (v1 : List UInt8) (v2 : Int) (v3 : Int) (v4 : Bool) (v5 : Int) : Option (List (TV E)) :=
  bif (decide (v5 < (v1.length : Int))) then (bif ((decide ((0 : Int) ≤ v5) && decide (v5 < (v1.length : Int))) || !(!v4)) then G 1 (rbare_C1 v0 v1 v2 v3 (bif v4 then true else ((((List.getD v1 (Int.toNat v5) 0).toNat : Nat) : Int) == v3)) (w64 (v5 + (1 : Int)))) else none) else (bif (!v4) then some [⟨.bool, false⟩] else G 0 (rbare_C0 v0 v1 (w64 (v2 + (1 : Int)))))
theorem rbare_l1 (G : Nat → ASt E → Option (List (TV E))) (v0 : List UInt8) (v1 : List UInt8) (v2 : Int) (v3 : Int) (v4 : Bool) (v5 : Int) : runL rbare_O rbare_H G Tryz.f111 1 (rbare_C1 v0 v1 v2 v3 v4 v5) = rbare_t1 G v0 v1 v2 v3 v4 v5 := by kernel_rfl
theorem rbare_f : Tryz.prog.funcs[111]? = some Tryz.f111 := by kernel_rfl
theorem rbare_n : (Tryz.f111.name == "runtime.NumGoroutine") = false := by kernel_rfl
theorem rbare_b : Tryz.f111.body.isNone = false := by kernel_rfl
theorem rbare_ex : ∃ fn, Tryz.prog.funcs[111]? = some fn ∧ (fn.name == "runtime.NumGoroutine") = false ∧ fn.body.isNone = false := ⟨Tryz.f111, rbare_f, rbare_n, rbare_b⟩
theorem rbare_hO : OracleOk E rbare_O := orac_ok .nil .nil .nil .nil
theorem rbare_s0 {res : List (TV E)} {v0 : List UInt8} {v1 : List UInt8} {v2 : Int} (h : rbare_t0 (Gr E Tryz.f111 res) v0 v1 v2 = some res) : Ev E Tryz.f111 res 0 (rbare_C0 v0 v1 v2) := Ev.step rbare_hO mix ((rbare_l0 _ v0 v1 v2).trans h)
theorem rbare_s1 {res : List (TV E)} {v0 : List UInt8} {v1 : List UInt8} {v2 : Int} {v3 : Int} {v4 : Bool} {v5 : Int} (h : rbare_t1 (Gr E Tryz.f111 res) v0 v1 v2 v3 v4 v5 = some res) : Ev E Tryz.f111 res 1 (rbare_C1 v0 v1 v2 v3 v4 v5) := Ev.step rbare_hO mix ((rbare_l1 _ v0 v1 v2 v3 v4 v5).trans h)
def rbare_any (x0 : List UInt8) (p : Bool) : Prop := rbare_t (Gr E Tryz.f111 [⟨.bool, p⟩]) x0 = some [⟨.bool, p⟩]
noncomputable def rbare_p (x0 : List UInt8) : Bool := @Classical.epsilon _ ⟨(dflt .bool)⟩ (rbare_any x0)
noncomputable def rbare_r0 (x0 : List UInt8) : Bool := (rbare_p x0)
theorem rbare_spec (x0 : List UInt8) (h : ∃ p, rbare_any x0 p) : rbare_any x0 (rbare_p x0) := Classical.epsilon_spec h
noncomputable def rbare_W : FnW E := fn1 (E := E) .str .bool okL1 rbare_r0
def rbare_id : FuncId := 111
theorem rbare_ok_of (h : ∀ (x0 : List UInt8), okL1 x0 = true → rbare_t (Gr E Tryz.f111 [⟨.bool, rbare_r0 x0⟩]) x0 = some [⟨.bool, rbare_r0 x0⟩]) : FnOk E rbare_id rbare_W := fn1_ok rbare_hO mix rbare_f rbare_n rbare_b (fun x0 hk => (rbare_e _ x0).trans (h x0 hk))
abbrev bareG (j : Nat) (S : ASt E) : Prop := ∃ p : Bool, True ∧ Ev E Tryz.f111 [⟨.bool, p⟩] j S
theorem rbare_1 (s : List UInt8) (i : Nat) (c : Int) (K : bareG 0 (rbare_C0 s [46, 95, 45, 47, 58, 61, 44, 43, 64, 37] (w64 ((i : Int) + 1)))) : ∀ (m k : Nat) (b : Bool), 10 - k = m → k ≤ 10 → bareG 1 (rbare_C1 s [46, 95, 45, 47, 58, 61, 44, 43, 64, 37] i c b k) := by
  intro m
  induction m with
  | zero =>
    intro k b h1 h2
    refine anyS (fun _ h => rbare_s1 h) ?_
    simp only [rbare_t1, dge (show ([46, 95, 45, 47, 58, 61, 44, 43, 64, 37] : List UInt8).length ≤ k by simp; omega), cond_false]
    cases b with
    | false => exact ⟨_, trivial, rfl⟩
    | true => exact anyS (fun _ h => Gr_of h) K
  | succ m ih =>
    intro k b h1 h2
    have e1 : w64 ((k : Int) + 1) = ((k + 1 : Nat) : Int) := by rw [w64_id (by omega) (by omega)]; omega
    refine anyS (fun _ h => rbare_s1 h) ?_
    simp only [rbare_t1, dlt (show k < ([46, 95, 45, 47, 58, 61, 44, 43, 64, 37] : List UInt8).length by simp; omega), d0, Bool.and_self, Bool.true_or, cond_true, e1]
    exact anyS (fun _ h => Gr_of h) (ih (k + 1) _ (by omega) (by omega))
theorem rbare_0 (s : List UInt8) (hs : s.length ≤ 1000000) : ∀ (m i : Nat), s.length - i = m → i ≤ s.length → bareG 0 (rbare_C0 s [46, 95, 45, 47, 58, 61, 44, 43, 64, 37] i) := by
  intro m
  induction m with
  | zero =>
    intro i h1 h2
    refine anyS (fun _ h => rbare_s0 h) ?_
    simp only [rbare_t0, dge (show s.length ≤ i by omega), cond_false]
    exact ⟨_, trivial, rfl⟩
  | succ m ih =>
    intro i h1 h2
    have hi : i < s.length := by omega
    have e1 : w64 ((i : Int) + 1) = ((i + 1 : Nat) : Int) := by rw [w64_id (by omega) (by omega)]; omega
    refine anyS (fun _ h => rbare_s0 h) ?_
    simp only [rbare_t0, dlt hi, d0, Bool.and_self, cond_true]
    exact anyS (fun _ h => Gr_of h) (rbare_1 s i _ (by rw [e1]; exact ih (i + 1) (by omega) (by omega)) 10 0 _ rfl (Nat.zero_le _))
theorem rbare_ok : FnOk E rbare_id rbare_W := rbare_ok_of fun s hk => by
  obtain ⟨p, _, hp⟩ := rbare_0 s (okL1_iff.1 hk) _ 0 rfl (Nat.zero_le _)
  exact rbare_spec s ⟨p, Gr_of hp⟩
def okJ (l : List (List UInt8)) : Bool := ln6 l && l.all okL1
theorem okJ_iff {l : List (List UInt8)} : okJ l = true ↔ l.length ≤ 1000000 ∧ ∀ x ∈ l, x.length ≤ 1000000 := by simp [okJ, ln6, okL1]
noncomputable def rwjoin_O : Oracle E := orac [(111, rbare_W)] [] [] []
noncomputable def rwjoin_H : Hint E := Hint.mk [(0, [0, 3, 4]), (1, [0, 3, 4, 5])] [] [] [] []
noncomputable def rwjoin_C0 (v0 : List (List UInt8)) (v1 : List UInt8) (v2 : Int) : ASt E := ASt.mk 60 [(0, .d (.slice .str v0)), (3, .d (.str v1)), (4, .d (.int .i64 v2))] [] 0
noncomputable def rwjoin_C1 (v0 : List (List UInt8)) (v1 : List UInt8) (v2 : Int) (v3 : Int) : ASt E := ASt.mk 60 [(0, .d (.slice .str v0)), (3, .d (.str v1)), (4, .d (.int .i64 v2)), (5, .d (.int .i64 v3))] [] 0
noncomputable def rwjoin_t (G : Nat → ASt E → Option (List (TV E))) (x0 : List (List UInt8)) : Option (List (TV E)) :=
  G 0 (rwjoin_C0 x0 ([] : List UInt8) (0 : Int))
theorem rwjoin_e (G : Nat → ASt E → Option (List (TV E))) (x0 : List (List UInt8)) : runE rwjoin_O rwjoin_H G Tryz.f97 [⟨.l_str, x0⟩] = rwjoin_t G x0 := by kernel_rfl
noncomputable def rwjoin_t0 (G : Nat → ASt E → Option (List (TV E))) (v0 : List (List UInt8)) (v1 : List UInt8) (v2 : Int) : Option (List (TV E)) :=
  bif (decide (v2 < (v0.length : Int))) then (bif (decide ((0 : Int) < v2)) then (bif (decide (v1.length + ([32] : List UInt8).length ≤ maxStr)) then (bif (decide ((0 : Int) ≤ v2) && decide (v2 < (v0.length : Int))) then (bif (okL1 (List.getD v0 (Int.toNat v2) (dflt .str))) then (bif (rbare_r0 (List.getD v0 (Int.toNat v2) (dflt .str))) then (bif (decide ((0 : Int) ≤ v2) && decide (v2 < (v0.length : Int))) then (bif (decide ((v1 ++ ([32] : List UInt8)).length + (List.getD v0 (Int.toNat v2) (dflt .str)).length ≤ maxStr)) then G 0 (rwjoin_C0 v0 ((v1 ++ ([32] : List UInt8)) ++ (List.getD v0 (Int.toNat v2) (dflt .str))) (w64 (v2 + (1 : Int)))) else none) else none) else (bif (decide ((v1 ++ ([32] : List UInt8)).length + ([39] : List UInt8).length ≤ maxStr)) then G 1 (rwjoin_C1 v0 ((v1 ++ ([32] : List UInt8)) ++ ([39] : List UInt8)) v2 (0 : Int)) else none)) else none) else none) else none) else (bif (decide ((0 : Int) ≤ v2) && decide (v2 < (v0.length : Int))) then (bif (okL1 (List.getD v0 (Int.toNat v2) (dflt .str))) then (bif (rbare_r0 (List.getD v0 (Int.toNat v2) (dflt .str))) then (bif (decide ((0 : Int) ≤ v2) && decide (v2 < (v0.length : Int))) then (bif (decide (v1.length + (List.getD v0 (Int.toNat v2) (dflt .str)).length ≤ maxStr)) then G 0 (rwjoin_C0 v0 (v1 ++ (List.getD v0 (Int.toNat v2) (dflt .str))) (w64 (v2 + (1 : Int)))) else none) else none) else (bif (decide (v1.length + ([39] : List UInt8).length ≤ maxStr)) then G 1 (rwjoin_C1 v0 (v1 ++ ([39] : List UInt8)) v2 (0 : Int)) else none)) else none) else none)) else some [⟨.str, v1⟩]
theorem rwjoin_l0 (G : Nat → ASt E → Option (List (TV E))) (v0 : List (List UInt8)) (v1 : List UInt8) (v2 : Int) : runL rwjoin_O rwjoin_H G Tryz.f97 0 (rwjoin_C0 v0 v1 v2) = rwjoin_t0 G v0 v1 v2 := by kernel_rfl
noncomputable def rwjoin_t1 (G : Nat → ASt E → Option (List (TV E))) (v0 : List (List UInt8)) (v1 : List UInt8) (v2 : Int) (v3 : Int) : Option (List (TV E)) :=
  bif (decide ((0 : Int) ≤ v2) && decide (v2 < (v0.length : Int))) then (bif (decide (v3 < ((List.getD v0 (Int.toNat v2) (dflt .str)).length : Int))) then (bif (decide ((0 : Int) ≤ v2) && decide (v2 < (v0.length : Int))) then (bif (decide ((0 : Int) ≤ v3) && decide (v3 < ((List.getD v0 (Int.toNat v2) (dflt .str)).length : Int))) then (bif ((((List.getD (List.getD v0 (Int.toNat v2) (dflt .str)) (Int.toNat v3) 0).toNat : Nat) : Int) == (39 : Int)) then (bif (decide (v1.length + ([39, 92, 39] : List UInt8).length ≤ maxStr)) then (bif (decide ((0 : Int) ≤ v2) && decide (v2 < (v0.length : Int))) then (bif (decide ((0 : Int) ≤ v3) && decide (v3 ≤ (w64 (v3 + (1 : Int)))) && decide ((w64 (v3 + (1 : Int))) ≤ ((List.getD v0 (Int.toNat v2) (dflt .str)).length : Int))) then (bif (decide ((v1 ++ ([39, 92, 39] : List UInt8)).length + (List.take (Int.toNat (w64 (v3 + (1 : Int))) - Int.toNat v3) (List.drop (Int.toNat v3) (List.getD v0 (Int.toNat v2) (dflt .str)))).length ≤ maxStr)) then G 1 (rwjoin_C1 v0 ((v1 ++ ([39, 92, 39] : List UInt8)) ++ (List.take (Int.toNat (w64 (v3 + (1 : Int))) - Int.toNat v3) (List.drop (Int.toNat v3) (List.getD v0 (Int.toNat v2) (dflt .str))))) v2 (w64 (v3 + (1 : Int)))) else none) else none) else none) else none) else (bif (decide ((0 : Int) ≤ v2) && decide (v2 < (v0.length : Int))) then (bif (decide ((0 : Int) ≤ v3) && decide (v3 ≤ (w64 (v3 + (1 : Int)))) && decide ((w64 (v3 + (1 : Int))) ≤ ((List.getD v0 (Int.toNat v2) (dflt .str)).length : Int))) then (bif (decide (v1.length + (List.take (Int.toNat (w64 (v3 + (1 : Int))) - Int.toNat v3) (List.drop (Int.toNat v3) (List.getD v0 (Int.toNat v2) (dflt .str)))).length ≤ maxStr)) then G 1 (rwjoin_C1 v0 (v1 ++ (List.take (Int.toNat (w64 (v3 + (1 : Int))) - Int.toNat v3) (List.drop (Int.toNat v3) (List.getD v0 (Int.toNat v2) (dflt .str))))) v2 (w64 (v3 + (1 : Int)))) else none) else none) else none)) else none) else none) else (bif (decide (v1.length + ([39] : List UInt8).length ≤ maxStr)) then G 0 (rwjoin_C0 v0 (v1 ++ ([39] : List UInt8)) (w64 (v2 + (1 : Int)))) else none)) else none
theorem rwjoin_l1 (G : Nat → ASt E → Option (List (TV E))) (v0 : List (List UInt8)) (v1 : List UInt8) (v2 : Int) (v3 : Int) : runL rwjoin_O rwjoin_H G Tryz.f97 1 (rwjoin_C1 v0 v1 v2 v3) = rwjoin_t1 G v0 v1 v2 v3 := by kernel_rfl
theorem rwjoin_f : Tryz.prog.funcs[97]? = some Tryz.f97 := by kernel_rfl
theorem rwjoin_n : (Tryz.f97.name == "runtime.NumGoroutine") = false := by kernel_rfl
theorem rwjoin_b : Tryz.f97.body.isNone = false := by kernel_rfl
theorem rwjoin_ex : ∃ fn, Tryz.prog.funcs[97]? = some fn ∧ (fn.name == "runtime.NumGoroutine") = false ∧ fn.body.isNone = false := ⟨Tryz.f97, rwjoin_f, rwjoin_n, rwjoin_b⟩
theorem rwjoin_hO : OracleOk E rwjoin_O := orac_ok (.cons rbare_ok .nil) .nil .nil .nil
theorem rwjoin_s0 {res : List (TV E)} {v0 : List (List UInt8)} {v1 : List UInt8} {v2 : Int} (h : rwjoin_t0 (Gr E Tryz.f97 res) v0 v1 v2 = some res) : Ev E Tryz.f97 res 0 (rwjoin_C0 v0 v1 v2) := Ev.step rwjoin_hO mix ((rwjoin_l0 _ v0 v1 v2).trans h)
theorem rwjoin_s1 {res : List (TV E)} {v0 : List (List UInt8)} {v1 : List UInt8} {v2 : Int} {v3 : Int} (h : rwjoin_t1 (Gr E Tryz.f97 res) v0 v1 v2 v3 = some res) : Ev E Tryz.f97 res 1 (rwjoin_C1 v0 v1 v2 v3) := Ev.step rwjoin_hO mix ((rwjoin_l1 _ v0 v1 v2 v3).trans h)
def rwjoin_any (x0 : List (List UInt8)) (p : (List UInt8)) : Prop := rwjoin_t (Gr E Tryz.f97 [⟨.str, p⟩]) x0 = some [⟨.str, p⟩]
noncomputable def rwjoin_p (x0 : List (List UInt8)) : (List UInt8) := @Classical.epsilon _ ⟨(dflt .str)⟩ (rwjoin_any x0)
noncomputable def rwjoin_r0 (x0 : List (List UInt8)) : List UInt8 := (rwjoin_p x0)
theorem rwjoin_spec (x0 : List (List UInt8)) (h : ∃ p, rwjoin_any x0 p) : rwjoin_any x0 (rwjoin_p x0) := Classical.epsilon_spec h
noncomputable def rwjoin_W : FnW E := fn1 (E := E) .l_str .str okJ rwjoin_r0
def rwjoin_id : FuncId := 97
theorem rwjoin_ok_of (h : ∀ (x0 : List (List UInt8)), okJ x0 = true → rwjoin_t (Gr E Tryz.f97 [⟨.str, rwjoin_r0 x0⟩]) x0 = some [⟨.str, rwjoin_r0 x0⟩]) : FnOk E rwjoin_id rwjoin_W := fn1_ok rwjoin_hO mix rwjoin_f rwjoin_n rwjoin_b (fun x0 hk => (rwjoin_e _ x0).trans (h x0 hk))
abbrev joinG (j : Nat) (S : ASt E) : Prop := ∃ p : List UInt8, True ∧ Ev E Tryz.f97 [⟨.str, p⟩] j S
theorem rwjoin_1 (l : List (List UInt8)) (hl : l.length ≤ 1000000) (i : Nat) (hi : i < l.length) (hx : l[i].length ≤ 1000000) (K : ∀ out : List UInt8, out.length ≤ (i + 1) * 5000000 → joinG 0 (rwjoin_C0 l out (w64 ((i : Int) + 1)))) :
    ∀ (m k : Nat) (out : List UInt8), l[i].length - k = m → k ≤ l[i].length → out.length ≤ i * 5000000 + 4 + 4 * k → joinG 1 (rwjoin_C1 l out i k) := by
  intro m
  induction m with
  | zero =>
    intro k out h1 h2 h3
    refine anyS (fun _ h => rwjoin_s1 h) ?_
    simp only [rwjoin_t1, dlt hi, d0, gd l _ i hi, Bool.and_self, cond_true, dge (show l[i].length ≤ k by omega), cond_false]
    rw [msT (show out.length + [(39 : UInt8)].length ≤ 4611686018427387904 by rw [List.length_singleton]; omega)]
    exact anyS (fun _ h => Gr_of h) (K _ (by rw [List.length_append, List.length_singleton]; omega))
  | succ m ih =>
    intro k out h1 h2 h3
    have hk : k < l[i].length := by omega
    have e1 : w64 ((k : Int) + 1) = ((k + 1 : Nat) : Int) := by rw [w64_id (by omega) (by omega)]; omega
    have c1 : (List.take (k + 1 - k) (List.drop k l[i])).length ≤ 1 := by simp only [List.length_take]; omega
    refine anyS (fun _ h => rwjoin_s1 h) ?_
    simp only [rwjoin_t1, dlt hi, d0, gd l _ i hi, Bool.and_self, cond_true, dlt hk, e1, dle (show k ≤ k + 1 by omega), dle (show k + 1 ≤ l[i].length by omega)]
    simp only [Int.toNat_natCast]
    rw [msT (show out.length + ([39, 92, 39] : List UInt8).length ≤ 4611686018427387904 by simp only [List.length_cons, List.length_nil]; omega), msT (show (out ++ ([39, 92, 39] : List UInt8)).length + (List.take (k + 1 - k) (List.drop k l[i])).length ≤ 4611686018427387904 by simp only [List.length_append, List.length_cons, List.length_nil]; omega),
      msT (show out.length + (List.take (k + 1 - k) (List.drop k l[i])).length ≤ 4611686018427387904 by omega)]
    simp only [cond_true]
    cases ((List.getD l[i] k 0).toNat : Int) == 39 with
    | true => exact anyS (fun _ h => Gr_of h) (ih (k + 1) _ (by omega) (by omega) (by simp only [List.length_append, List.length_cons, List.length_nil]; omega))
    | false => exact anyS (fun _ h => Gr_of h) (ih (k + 1) _ (by omega) (by omega) (by rw [List.length_append]; omega))
theorem rwjoin_0 (l : List (List UInt8)) (hl : l.length ≤ 1000000) (hx : ∀ x ∈ l, x.length ≤ 1000000) : ∀ (m i : Nat) (out : List UInt8), l.length - i = m → i ≤ l.length → out.length ≤ i * 5000000 → joinG 0 (rwjoin_C0 l out i) := by
  intro m
  induction m with
  | zero =>
    intro i out h1 h2 h3
    refine anyS (fun _ h => rwjoin_s0 h) ?_
    simp only [rwjoin_t0, dge (show l.length ≤ i by omega), cond_false]
    exact ⟨_, trivial, rfl⟩
  | succ m ih =>
    intro i out h1 h2 h3
    have hi : i < l.length := by omega
    have e1 : w64 ((i : Int) + 1) = ((i + 1 : Nat) : Int) := by rw [w64_id (by omega) (by omega)]; omega
    have hxi := hx _ (List.getElem_mem hi)
    have o1 : okL1 l[i] = true := okL1_iff.2 hxi
    have K : ∀ out : List UInt8, out.length ≤ (i + 1) * 5000000 → joinG 0 (rwjoin_C0 l out (w64 ((i : Int) + 1))) := fun out ho => by rw [e1]; exact ih (i + 1) out (by omega) (by omega) ho
    refine anyS (fun _ h => rwjoin_s0 h) ?_
    simp only [rwjoin_t0, dlt hi, d0, gd l _ i hi, Bool.and_self, cond_true, o1]
    rw [msT (show out.length + [(32 : UInt8)].length ≤ 4611686018427387904 by rw [List.length_singleton]; omega), msT (show (out ++ [(32 : UInt8)]).length + l[i].length ≤ 4611686018427387904 by rw [List.length_append, List.length_singleton]; omega),
      msT (show (out ++ [(32 : UInt8)]).length + [(39 : UInt8)].length ≤ 4611686018427387904 by simp only [List.length_append, List.length_singleton]; omega), msT (show out.length + l[i].length ≤ 4611686018427387904 by omega), msT (show out.length + [(39 : UInt8)].length ≤ 4611686018427387904 by rw [List.length_singleton]; omega)]
    simp only [cond_true]
    cases decide ((0 : Int) < (i : Int)) <;> cases rbare_r0 l[i]
    · exact anyS (fun _ h => Gr_of h) (rwjoin_1 l hl i hi hxi K _ 0 _ rfl (Nat.zero_le _) (by simp only [List.length_append, List.length_cons, List.length_nil]; omega))
    · exact anyS (fun _ h => Gr_of h) (K _ (by rw [List.length_append]; omega))
    · exact anyS (fun _ h => Gr_of h) (rwjoin_1 l hl i hi hxi K _ 0 _ rfl (Nat.zero_le _) (by simp only [List.length_append, List.length_cons, List.length_nil]; omega))
    · exact anyS (fun _ h => Gr_of h) (K _ (by simp only [List.length_append, List.length_singleton]; omega))
theorem rwjoin_ok : FnOk E rwjoin_id rwjoin_W := rwjoin_ok_of fun l hk => by
  obtain ⟨h1, h2⟩ := okJ_iff.1 hk
  obtain ⟨p, _, hp⟩ := rwjoin_0 l h1 h2 _ 0 [] rfl (Nat.zero_le _) (Nat.zero_le _)
  exact rwjoin_spec l ⟨p, Gr_of hp⟩
end Go.Proofs.YtoelhlikomifjaaGreat.Rf