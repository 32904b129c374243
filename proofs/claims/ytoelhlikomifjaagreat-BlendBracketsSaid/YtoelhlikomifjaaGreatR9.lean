/- The reference's mounts (17): there is a result, by the Mirror. -/
import Derived.Test.YtoelhlikomifjaaGreatR8
namespace Go.Proofs.YtoelhlikomifjaaGreat.Rf
open Go Go.RowKit Go.Sort Go.Proofs.YtoelhlikomifjaaGreat.Mir
/-! ### The reference's mounts (17) -/
def mpathPr (s : List UInt8) (p : Bool) : Prop := p = true → 1 ≤ s.length
noncomputable def rmpath_O : Oracle E := orac [(28, kindf_W)] [] [] []
noncomputable def rmpath_H : Hint E := Hint.mk [(0, [0, 3])] [] [] [] []
noncomputable def rmpath_C0 (v0 : List UInt8) (v1 : Int) : ASt E := ASt.mk 29 [(0, .d (.str v0)), (3, .d (.int .i64 v1))] [] 0
noncomputable def rmpath_t (G : Nat → ASt E → Option (List (TV E))) (x0 : List UInt8) : Option (List (TV E)) :=
  bif (bif (decide ((x0.length : Int) < (1 : Int))) then true else (decide ((64 : Int) < (x0.length : Int)))) then some [⟨.bool, false⟩] else G 0 (rmpath_C0 x0 (0 : Int))
theorem rmpath_e (G : Nat → ASt E → Option (List (TV E))) (x0 : List UInt8) : runE rmpath_O rmpath_H G Tryz.f110 [⟨.str, x0⟩] = rmpath_t G x0 := by kernel_rfl
noncomputable def rmpath_t0 (G : Nat → ASt E → Option (List (TV E))) (v0 : List UInt8) (v1 : Int) : Option (List (TV E)) :=
  bif (decide (v1 < (v0.length : Int))) then (bif (decide ((0 : Int) ≤ v1) && decide (v1 < (v0.length : Int))) then (bif ((decide ((0 : Int) ≤ v1) && decide (v1 < (v0.length : Int))) || !((((List.getD v0 (Int.toNat v1) 0).toNat : Nat) : Int) != (47 : Int))) then (bif (bif ((((List.getD v0 (Int.toNat v1) 0).toNat : Nat) : Int) != (47 : Int)) then ((kindV (((List.getD v0 (Int.toNat v1) 0).toNat : Nat) : Int)) == (0 : Int)) else false) then some [⟨.bool, false⟩] else G 0 (rmpath_C0 v0 (w64 (v1 + (1 : Int))))) else none) else none) else some [⟨.bool, true⟩]
theorem rmpath_l0 (G : Nat → ASt E → Option (List (TV E))) (v0 : List UInt8) (v1 : Int) : runL rmpath_O rmpath_H G Tryz.f110 0 (rmpath_C0 v0 v1) = rmpath_t0 G v0 v1 := by kernel_rfl
theorem rmpath_f : Tryz.prog.funcs[110]? = some Tryz.f110 := by kernel_rfl
theorem rmpath_n : (Tryz.f110.name == "runtime.NumGoroutine") = false := by kernel_rfl
theorem rmpath_b : Tryz.f110.body.isNone = false := by kernel_rfl
theorem rmpath_ex : ∃ fn, Tryz.prog.funcs[110]? = some fn ∧ (fn.name == "runtime.NumGoroutine") = false ∧ fn.body.isNone = false := ⟨Tryz.f110, rmpath_f, rmpath_n, rmpath_b⟩
theorem rmpath_hO : OracleOk E rmpath_O := orac_ok (.cons kindf_ok .nil) .nil .nil .nil
theorem rmpath_s0 {res : List (TV E)} {v0 : List UInt8} {v1 : Int} (h : rmpath_t0 (Gr E Tryz.f110 res) v0 v1 = some res) : Ev E Tryz.f110 res 0 (rmpath_C0 v0 v1) := Ev.step rmpath_hO mix ((rmpath_l0 _ v0 v1).trans h)
def rmpath_any (x0 : List UInt8) (p : Bool) : Prop := rmpath_t (Gr E Tryz.f110 [⟨.bool, p⟩]) x0 = some [⟨.bool, p⟩] ∧ mpathPr x0 p
noncomputable def rmpath_p (x0 : List UInt8) : Bool := @Classical.epsilon _ ⟨(dflt .bool)⟩ (rmpath_any x0)
noncomputable def rmpath_r0 (x0 : List UInt8) : Bool := (rmpath_p x0)
theorem rmpath_spec (x0 : List UInt8) (h : ∃ p, rmpath_any x0 p) : rmpath_any x0 (rmpath_p x0) := Classical.epsilon_spec h
noncomputable def rmpath_W : FnW E := fn1 (E := E) .str .bool okL1 rmpath_r0
def rmpath_id : FuncId := 110
theorem rmpath_ok_of (h : ∀ (x0 : List UInt8), okL1 x0 = true → rmpath_t (Gr E Tryz.f110 [⟨.bool, rmpath_r0 x0⟩]) x0 = some [⟨.bool, rmpath_r0 x0⟩]) : FnOk E rmpath_id rmpath_W := fn1_ok rmpath_hO mix rmpath_f rmpath_n rmpath_b (fun x0 hk => (rmpath_e _ x0).trans (h x0 hk))
theorem rmpath_0 (s : List UInt8) (hs : s.length ≤ 1000000) (h1s : 1 ≤ s.length) : ∀ (m i : Nat), s.length - i = m → i ≤ s.length → 
    ∃ p : Bool, (mpathPr s p) ∧ Ev E Tryz.f110 [⟨.bool, p⟩] 0 (rmpath_C0 s i) := by
  intro m
  induction m with
  | zero =>
    intro i  h1 h2
    refine anyS (fun _ h => rmpath_s0 h) ?_
    simp only [rmpath_t0, dge (show s.length ≤ i by omega), cond_false, List.drop_eq_nil_of_le (show s.length ≤ i by omega)]
    exact ⟨true, fun _ => h1s, rfl⟩
  | succ m ih2 =>
    intro i  h1 h2
    have hi : i < s.length := by omega
    have e3 : w64 ((i : Int) + 1) = ((i + 1 : Nat) : Int) := by rw [w64_id (by omega) (by omega)]; omega
    refine anyS (fun _ h => rmpath_s0 h) ?_
    simp only [rmpath_t0, dlt hi, d0, gd s _ i hi, e3, Bool.and_self, Bool.true_or, cond_true]
    cases (bif ((s[i].toNat : Nat) : Int) != 47 then kindV ((s[i].toNat : Nat) : Int) == 0 else false) with
    | true => exact ⟨false, (fun h => by cases h), rfl⟩
    | false => exact anyS (fun _ h => Gr_of h) (ih2 (i + 1) (by omega) (by omega))
theorem rmpath_tot (s : List UInt8) (hs : s.length ≤ 1000000) : ∃ p, rmpath_any s p := by
  have flip : (∃ p, mpathPr s p ∧ rmpath_t (Gr E Tryz.f110 [⟨.bool, p⟩]) s = some [⟨.bool, p⟩]) → ∃ p, rmpath_any s p := fun ⟨p, h1, h2⟩ => ⟨p, h2, h1⟩
  refine flip ?_
  simp only [rmpath_t]
  by_cases h : (s.length : Int) < 1
  · rw [dT h]; exact ⟨false, (fun h => by cases h), rfl⟩
  · rw [dF h]
    simp only [cond_false]
    cases decide ((64 : Int) < (s.length : Int)) with
    | true => exact ⟨false, (fun h => by cases h), rfl⟩
    | false => exact anyS (fun _ h => Gr_of h) (rmpath_0 s hs (by omega) _ 0 rfl (Nat.zero_le _))
theorem rmpath_ok : FnOk E rmpath_id rmpath_W := rmpath_ok_of fun s hk => (rmpath_spec s (rmpath_tot s (okL1_iff.1 hk))).1
theorem rmpath_pr {s : List UInt8} (hs : s.length ≤ 1000000) (h : rmpath_r0 s = true) : 1 ≤ s.length := (rmpath_spec s (rmpath_tot s hs)).2 h
/-- A guard on a first byte that is asked only where there is one. -/
theorem okHd (s : List UInt8) (b : Bool) (h : b = true → 1 ≤ s.length) : ((decide ((0 : Int) ≤ 0) && decide ((0 : Int) < (s.length : Int))) || !b) = true := by
  cases b with
  | false => simp
  | true => rw [dT (show (0 : Int) < (s.length : Int) by have := h rfl; omega)]; rfl
noncomputable def rmtarget_O : Oracle E := orac [(110, rmpath_W)] [] [] []
noncomputable def rmtarget_H : Hint E := Hint.mk [(0, [0, 3, 4])] [] [] [] []
noncomputable def rmtarget_C0 (v0 : List UInt8) (v1 : Int) (v2 : Int) : ASt E := ASt.mk 48 [(0, .d (.str v0)), (3, .d (.int .i64 v1)), (4, .d (.int .i64 v2))] [] 0
noncomputable def rmtarget_t (G : Nat → ASt E → Option (List (TV E))) (x0 : List UInt8) : Option (List (TV E)) :=
  bif (okL1 x0) then (bif ((decide ((0 : Int) ≤ (0 : Int)) && decide ((0 : Int) < (x0.length : Int))) || !(!(!(rmpath_r0 x0)))) then (bif (bif (!(rmpath_r0 x0)) then true else ((((List.getD x0 (Int.toNat (0 : Int)) 0).toNat : Nat) : Int) != (47 : Int))) then some [⟨.bool, false⟩] else (bif (x0 == ([47] : List UInt8)) then some [⟨.bool, true⟩] else G 0 (rmtarget_C0 x0 (1 : Int) (1 : Int)))) else none) else none
theorem rmtarget_e (G : Nat → ASt E → Option (List (TV E))) (x0 : List UInt8) : runE rmtarget_O rmtarget_H G Tryz.f109 [⟨.str, x0⟩] = rmtarget_t G x0 := by kernel_rfl
noncomputable def rmtarget_t0 (G : Nat → ASt E → Option (List (TV E))) (v0 : List UInt8) (v1 : Int) (v2 : Int) : Option (List (TV E)) :=
  bif (decide (v2 ≤ (v0.length : Int))) then (bif ((decide ((0 : Int) ≤ v2) && decide (v2 < (v0.length : Int))) || !(decide (v2 < (v0.length : Int)))) then (bif (bif (decide (v2 < (v0.length : Int))) then ((((List.getD v0 (Int.toNat v2) 0).toNat : Nat) : Int) != (47 : Int)) else false) then G 0 (rmtarget_C0 v0 v1 (w64 (v2 + (1 : Int)))) else (bif (decide ((0 : Int) ≤ v1) && decide (v1 ≤ v2) && decide (v2 ≤ (v0.length : Int))) then (bif (bif (bif ((List.take (Int.toNat v2 - Int.toNat v1) (List.drop (Int.toNat v1) v0)) == ([] : List UInt8)) then true else ((List.take (Int.toNat v2 - Int.toNat v1) (List.drop (Int.toNat v1) v0)) == ([46] : List UInt8))) then true else ((List.take (Int.toNat v2 - Int.toNat v1) (List.drop (Int.toNat v1) v0)) == ([46, 46] : List UInt8))) then some [⟨.bool, false⟩] else G 0 (rmtarget_C0 v0 (w64 (v2 + (1 : Int))) (w64 (v2 + (1 : Int))))) else none)) else none) else some [⟨.bool, true⟩]
theorem rmtarget_l0 (G : Nat → ASt E → Option (List (TV E))) (v0 : List UInt8) (v1 : Int) (v2 : Int) : runL rmtarget_O rmtarget_H G Tryz.f109 0 (rmtarget_C0 v0 v1 v2) = rmtarget_t0 G v0 v1 v2 := by kernel_rfl
theorem rmtarget_f : Tryz.prog.funcs[109]? = some Tryz.f109 := by kernel_rfl
theorem rmtarget_n : (Tryz.f109.name == "runtime.NumGoroutine") = false := by kernel_rfl
theorem rmtarget_b : Tryz.f109.body.isNone = false := by kernel_rfl
theorem rmtarget_ex : ∃ fn, Tryz.prog.funcs[109]? = some fn ∧ (fn.name == "runtime.NumGoroutine") = false ∧ fn.body.isNone = false := ⟨Tryz.f109, rmtarget_f, rmtarget_n, rmtarget_b⟩
theorem rmtarget_hO : OracleOk E rmtarget_O := orac_ok (.cons rmpath_ok .nil) .nil .nil .nil
theorem rmtarget_s0 {res : List (TV E)} {v0 : List UInt8} {v1 : Int} {v2 : Int} (h : rmtarget_t0 (Gr E Tryz.f109 res) v0 v1 v2 = some res) : Ev E Tryz.f109 res 0 (rmtarget_C0 v0 v1 v2) := Ev.step rmtarget_hO mix ((rmtarget_l0 _ v0 v1 v2).trans h)
def rmtarget_any (x0 : List UInt8) (p : Bool) : Prop := rmtarget_t (Gr E Tryz.f109 [⟨.bool, p⟩]) x0 = some [⟨.bool, p⟩]
noncomputable def rmtarget_p (x0 : List UInt8) : Bool := @Classical.epsilon _ ⟨(dflt .bool)⟩ (rmtarget_any x0)
noncomputable def rmtarget_r0 (x0 : List UInt8) : Bool := (rmtarget_p x0)
theorem rmtarget_spec (x0 : List UInt8) (h : ∃ p, rmtarget_any x0 p) : rmtarget_any x0 (rmtarget_p x0) := Classical.epsilon_spec h
noncomputable def rmtarget_W : FnW E := fn1 (E := E) .str .bool okL1 rmtarget_r0
def rmtarget_id : FuncId := 109
theorem rmtarget_ok_of (h : ∀ (x0 : List UInt8), okL1 x0 = true → rmtarget_t (Gr E Tryz.f109 [⟨.bool, rmtarget_r0 x0⟩]) x0 = some [⟨.bool, rmtarget_r0 x0⟩]) : FnOk E rmtarget_id rmtarget_W := fn1_ok rmtarget_hO mix rmtarget_f rmtarget_n rmtarget_b (fun x0 hk => (rmtarget_e _ x0).trans (h x0 hk))
theorem rmtarget_0 (s : List UInt8) (hs : s.length ≤ 1000000) : ∀ (m i f : Nat), s.length + 1 - i = m → i ≤ s.length + 1 → f ≤ i → ∃ p : Bool, True ∧ Ev E Tryz.f109 [⟨.bool, p⟩] 0 (rmtarget_C0 s f i) := by
  intro m
  induction m with
  | zero =>
    intro i f h1 h2 h3
    refine anyS (fun _ h => rmtarget_s0 h) ?_
    simp only [rmtarget_t0, dF (show ¬ (i : Int) ≤ (s.length : Int) by omega), cond_false]
    exact ⟨_, trivial, rfl⟩
  | succ m ih =>
    intro i f h1 h2 h3
    have e1 : w64 ((i : Int) + 1) = ((i + 1 : Nat) : Int) := by rw [w64_id (by omega) (by omega)]; omega
    refine anyS (fun _ h => rmtarget_s0 h) ?_
    have hb : ((decide ((i : Int) < (s.length : Int))) || !(decide ((i : Int) < (s.length : Int)))) = true := by cases decide ((i : Int) < (s.length : Int)) <;> rfl
    simp only [rmtarget_t0, dle (show i ≤ s.length by omega), d0, dle h3, Bool.true_and, hb, cond_true, e1, Int.toNat_natCast]
    cases (bif decide ((i : Int) < (s.length : Int)) then ((List.getD s i 0).toNat : Int) != 47 else false) with
    | true => exact anyS (fun _ h => Gr_of h) (ih (i + 1) f (by omega) (by omega) (by omega))
    | false =>
      simp only [cond_false]
      cases (bif bif List.take (i - f) (List.drop f s) == [] then true else List.take (i - f) (List.drop f s) == [46] then true else List.take (i - f) (List.drop f s) == [46, 46]) with
      | true => exact ⟨_, trivial, rfl⟩
      | false => exact anyS (fun _ h => Gr_of h) (ih (i + 1) (i + 1) (by omega) (by omega) (Nat.le_refl _))
theorem rmtarget_ok : FnOk E rmtarget_id rmtarget_W := rmtarget_ok_of fun s hk => by
  have hs := okL1_iff.1 hk
  have : ∃ p, rmtarget_any s p := by
    unfold rmtarget_any
    simp only [rmtarget_t, hk, cond_true, Bool.not_not, okHd s (rmpath_r0 s) (rmpath_pr hs)]
    cases (bif !(rmpath_r0 s) then true else ((List.getD s (Int.toNat 0) 0).toNat : Int) != 47) with
    | true => exact ⟨_, rfl⟩
    | false =>
      simp only [cond_false]
      cases s == [47] with
      | true => exact ⟨_, rfl⟩
      | false =>
        by_cases h1 : 1 ≤ s.length + 1
        · obtain ⟨p, _, h⟩ := rmtarget_0 s hs _ 1 1 rfl h1 (Nat.le_refl _)
          exact ⟨p, Gr_of h⟩
        · omega
  exact rmtarget_spec s this
def okM (m : Mount) : Bool := okL1 m.target && okL1 m.source
theorem okM_iff {m : Mount} : okM m = true ↔ m.target.length ≤ 1000000 ∧ m.source.length ≤ 1000000 := by simp [okM, okL1]
noncomputable def rmright_O : Oracle E := orac [(26, rservice_W), (110, rmpath_W), (109, rmtarget_W)] [] [] []
noncomputable def rmright_H : Hint E := Hint.mk [] [] [] [] []
noncomputable def rmright_t (_G : Nat → ASt E → Option (List (TV E))) (x0 : Mount) : Option (List (TV E)) :=
  bif (okL1 x0.target) then (bif (!(rmtarget_r0 x0.target)) then some [⟨.bool, false⟩] else (bif (bif ((x0.source.length : Int) == (0 : Int)) then true else ((nameV badS) x0.source)) then some [⟨.bool, true⟩] else (bif (okL1 x0.source) then (bif ((decide ((0 : Int) ≤ (0 : Int)) && decide ((0 : Int) < (x0.source.length : Int))) || !(rmpath_r0 x0.source)) then (bif ((decide ((0 : Int) ≤ (0 : Int)) && decide ((0 : Int) < (x0.source.length : Int))) || !((rmpath_r0 x0.source) && (!((((List.getD x0.source (Int.toNat (0 : Int)) 0).toNat : Nat) : Int) == (47 : Int))))) then some [⟨.bool, (bif (rmpath_r0 x0.source) then (bif ((((List.getD x0.source (Int.toNat (0 : Int)) 0).toNat : Nat) : Int) == (47 : Int)) then true else ((((List.getD x0.source (Int.toNat (0 : Int)) 0).toNat : Nat) : Int) == (46 : Int))) else false)⟩] else none) else none) else none))) else none
theorem rmright_e (G : Nat → ASt E → Option (List (TV E))) (x0 : Mount) : runE rmright_O rmright_H G Tryz.f96 [⟨.api_Mount, x0⟩] = rmright_t G x0 := by kernel_rfl
theorem rmright_f : Tryz.prog.funcs[96]? = some Tryz.f96 := by kernel_rfl
theorem rmright_n : (Tryz.f96.name == "runtime.NumGoroutine") = false := by kernel_rfl
theorem rmright_b : Tryz.f96.body.isNone = false := by kernel_rfl
theorem rmright_ex : ∃ fn, Tryz.prog.funcs[96]? = some fn ∧ (fn.name == "runtime.NumGoroutine") = false ∧ fn.body.isNone = false := ⟨Tryz.f96, rmright_f, rmright_n, rmright_b⟩
theorem rmright_hO : OracleOk E rmright_O := orac_ok (.cons rservice_ok (.cons rmpath_ok (.cons rmtarget_ok .nil))) .nil .nil .nil
def rmright_any (x0 : Mount) (p : Bool) : Prop := rmright_t (Gr E Tryz.f96 [⟨.bool, p⟩]) x0 = some [⟨.bool, p⟩]
noncomputable def rmright_p (x0 : Mount) : Bool := @Classical.epsilon _ ⟨(dflt .bool)⟩ (rmright_any x0)
noncomputable def rmright_r0 (x0 : Mount) : Bool := (rmright_p x0)
theorem rmright_spec (x0 : Mount) (h : ∃ p, rmright_any x0 p) : rmright_any x0 (rmright_p x0) := Classical.epsilon_spec h
noncomputable def rmright_W : FnW E := fn1 (E := E) .api_Mount .bool okM rmright_r0
def rmright_id : FuncId := 96
theorem rmright_ok_of (h : ∀ (x0 : Mount), okM x0 = true → rmright_t (Gr E Tryz.f96 [⟨.bool, rmright_r0 x0⟩]) x0 = some [⟨.bool, rmright_r0 x0⟩]) : FnOk E rmright_id rmright_W := fn1_ok rmright_hO mix rmright_f rmright_n rmright_b (fun x0 hk => (rmright_e _ x0).trans (h x0 hk))
theorem rmright_ok : FnOk E rmright_id rmright_W := rmright_ok_of fun m hk => by
  obtain ⟨h1, h2⟩ := okM_iff.1 hk
  have o1 : okL1 m.target = true := okL1_iff.2 h1
  have o2 : okL1 m.source = true := okL1_iff.2 h2
  have : ∃ p, rmright_any m p := by
    unfold rmright_any
    simp only [rmright_t, o1, o2, cond_true, okHd m.source (rmpath_r0 m.source) (rmpath_pr h2), okHd m.source (rmpath_r0 m.source && !(((List.getD m.source (Int.toNat 0) 0).toNat : Int) == 47)) (fun h => rmpath_pr h2 (by simp only [Bool.and_eq_true] at h; exact h.1))]
    cases rmtarget_r0 m.target <;> cases (bif (m.source.length : Int) == 0 then true else nameV badS m.source) <;> exact ⟨_, rfl⟩
  exact rmright_spec m this
noncomputable def rmtext_O : Oracle E := orac [(96, rmright_W)] [] [] []
noncomputable def rmtext_H : Hint E := Hint.mk [] [] [] [] []
noncomputable def rmtext_t (_G : Nat → ASt E → Option (List (TV E))) (x0 : Mount) : Option (List (TV E)) :=
  bif (okM x0) then (bif (!(rmright_r0 x0)) then some [⟨.str, ([] : List UInt8)⟩] else (bif (decide ((0 : Int) < (x0.source.length : Int))) then (bif (decide (x0.source.length + ([58] : List UInt8).length ≤ maxStr)) then (bif (decide ((x0.source ++ ([58] : List UInt8)).length + x0.target.length ≤ maxStr)) then (bif x0.readOnly then (bif (decide (((x0.source ++ ([58] : List UInt8)) ++ x0.target).length + ([58, 114, 111] : List UInt8).length ≤ maxStr)) then some [⟨.str, (((x0.source ++ ([58] : List UInt8)) ++ x0.target) ++ ([58, 114, 111] : List UInt8))⟩] else none) else some [⟨.str, ((x0.source ++ ([58] : List UInt8)) ++ x0.target)⟩]) else none) else none) else (bif x0.readOnly then (bif (decide (x0.target.length + ([58, 114, 111] : List UInt8).length ≤ maxStr)) then some [⟨.str, (x0.target ++ ([58, 114, 111] : List UInt8))⟩] else none) else some [⟨.str, x0.target⟩]))) else none
theorem rmtext_e (G : Nat → ASt E → Option (List (TV E))) (x0 : Mount) : runE rmtext_O rmtext_H G Tryz.f66 [⟨.api_Mount, x0⟩] = rmtext_t G x0 := by kernel_rfl
theorem rmtext_f : Tryz.prog.funcs[66]? = some Tryz.f66 := by kernel_rfl
theorem rmtext_n : (Tryz.f66.name == "runtime.NumGoroutine") = false := by kernel_rfl
theorem rmtext_b : Tryz.f66.body.isNone = false := by kernel_rfl
theorem rmtext_ex : ∃ fn, Tryz.prog.funcs[66]? = some fn ∧ (fn.name == "runtime.NumGoroutine") = false ∧ fn.body.isNone = false := ⟨Tryz.f66, rmtext_f, rmtext_n, rmtext_b⟩
theorem rmtext_hO : OracleOk E rmtext_O := orac_ok (.cons rmright_ok .nil) .nil .nil .nil
def rmtext_any (x0 : Mount) (p : (List UInt8)) : Prop := rmtext_t (Gr E Tryz.f66 [⟨.str, p⟩]) x0 = some [⟨.str, p⟩]
noncomputable def rmtext_p (x0 : Mount) : (List UInt8) := @Classical.epsilon _ ⟨(dflt .str)⟩ (rmtext_any x0)
noncomputable def rmtext_r0 (x0 : Mount) : List UInt8 := (rmtext_p x0)
theorem rmtext_spec (x0 : Mount) (h : ∃ p, rmtext_any x0 p) : rmtext_any x0 (rmtext_p x0) := Classical.epsilon_spec h
noncomputable def rmtext_W : FnW E := fn1 (E := E) .api_Mount .str okM rmtext_r0
def rmtext_id : FuncId := 66
theorem rmtext_ok_of (h : ∀ (x0 : Mount), okM x0 = true → rmtext_t (Gr E Tryz.f66 [⟨.str, rmtext_r0 x0⟩]) x0 = some [⟨.str, rmtext_r0 x0⟩]) : FnOk E rmtext_id rmtext_W := fn1_ok rmtext_hO mix rmtext_f rmtext_n rmtext_b (fun x0 hk => (rmtext_e _ x0).trans (h x0 hk))
theorem rmtext_ok : FnOk E rmtext_id rmtext_W := rmtext_ok_of fun m hk => by
  obtain ⟨h1, h2⟩ := okM_iff.1 hk
  have : ∃ p, rmtext_any m p := by
    unfold rmtext_any
    have K : ∀ a b : List UInt8, a.length ≤ 3000000 → b.length ≤ 3000000 → decide (a.length + b.length ≤ maxStr) = true := fun a b h1 h2 => msT (by omega)
    simp only [rmtext_t, hk, cond_true]
    simp (disch := (first | omega | (simp only [List.length_append, List.length_cons, List.length_nil]; omega))) only [K, cond_true]
    cases rmright_r0 m <;> cases decide ((0 : Int) < (m.source.length : Int)) <;> cases m.readOnly <;> exact ⟨_, rfl⟩
  exact rmtext_spec m this
def mpPr (_ : List UInt8) (p : Mount × Int) : Prop := p.1.target.length ≤ 1000000 ∧ p.1.source.length ≤ 1000000
noncomputable def rmparse_O : Oracle E := orac [(96, rmright_W)] [] [] []
noncomputable def rmparse_H : Hint E := Hint.mk [(0, [0, 2, 4, 6, 7, 8])] [] [] [] []
noncomputable def rmparse_C0 (v0 : List UInt8) (v1 : Int) (v2 : Int) (v3 : Int) (v4 : List UInt8) (v5 : List UInt8) (v6 : Bool) (v7 : List UInt8) (v8 : List UInt8) (v9 : Bool) : ASt E := ASt.mk 74 [(0, .d (.str v0)), (2, .ptr 0 0), (4, .ptr 1 0), (6, .d (.int .i64 v1)), (7, .d (.int .i64 v2)), (8, .d (.int .i64 v3))] [(0, .box [.d (.str v4), .d (.str v5), .d (.bool v6)]), (1, .box [.d (.str v7), .d (.str v8), .d (.bool v9)])] 2
noncomputable def rmparse_t (G : Nat → ASt E → Option (List (TV E))) (x0 : List UInt8) : Option (List (TV E)) :=
  bif ((decide ((0 : Int) ≤ (w64 ((x0.length : Int) - (3 : Int)))) && decide ((w64 ((x0.length : Int) - (3 : Int))) ≤ (x0.length : Int)) && decide ((x0.length : Int) ≤ (x0.length : Int))) || !(decide ((3 : Int) ≤ (x0.length : Int)))) then (bif ((decide ((0 : Int) ≤ (w64 ((x0.length : Int) - (3 : Int)))) && decide ((w64 ((x0.length : Int) - (3 : Int))) ≤ (x0.length : Int)) && decide ((x0.length : Int) ≤ (x0.length : Int))) || !((decide ((3 : Int) ≤ (x0.length : Int))) && (!((List.take (Int.toNat (x0.length : Int) - Int.toNat (w64 ((x0.length : Int) - (3 : Int)))) (List.drop (Int.toNat (w64 ((x0.length : Int) - (3 : Int)))) x0)) == ([58, 114, 111] : List UInt8))))) then (bif (bif (decide ((3 : Int) ≤ (x0.length : Int))) then (bif ((List.take (Int.toNat (x0.length : Int) - Int.toNat (w64 ((x0.length : Int) - (3 : Int)))) (List.drop (Int.toNat (w64 ((x0.length : Int) - (3 : Int)))) x0)) == ([58, 114, 111] : List UInt8)) then true else ((List.take (Int.toNat (x0.length : Int) - Int.toNat (w64 ((x0.length : Int) - (3 : Int)))) (List.drop (Int.toNat (w64 ((x0.length : Int) - (3 : Int)))) x0)) == ([58, 114, 119] : List UInt8))) else false) then (bif (decide ((0 : Int) ≤ (w64 ((x0.length : Int) - (1 : Int)))) && decide ((w64 ((x0.length : Int) - (1 : Int))) < (x0.length : Int))) then (bif (decide ((0 : Int) ≤ (0 : Int)) && decide ((0 : Int) ≤ (w64 ((x0.length : Int) - (3 : Int)))) && decide ((w64 ((x0.length : Int) - (3 : Int))) ≤ (x0.length : Int))) then G 0 (rmparse_C0 (List.take (Int.toNat (w64 ((x0.length : Int) - (3 : Int))) - Int.toNat (0 : Int)) (List.drop (Int.toNat (0 : Int)) x0)) (-1 : Int) (0 : Int) (0 : Int) ([] : List UInt8) ([] : List UInt8) false ([] : List UInt8) ([] : List UInt8) ((((List.getD x0 (Int.toNat (w64 ((x0.length : Int) - (1 : Int)))) 0).toNat : Nat) : Int) == (111 : Int))) else none) else none) else G 0 (rmparse_C0 x0 (-1 : Int) (0 : Int) (0 : Int) ([] : List UInt8) ([] : List UInt8) false ([] : List UInt8) ([] : List UInt8) false)) else none) else none
theorem rmparse_e (G : Nat → ASt E → Option (List (TV E))) (x0 : List UInt8) : runE rmparse_O rmparse_H G Tryz.f95 [⟨.str, x0⟩] = rmparse_t G x0 := by kernel_rfl
noncomputable def rmparse_t0 (G : Nat → ASt E → Option (List (TV E))) (v0 : List UInt8) (v1 : Int) (v2 : Int) (v3 : Int) (v4 : List UInt8) (v5 : List UInt8) (v6 : Bool) (v7 : List UInt8) (v8 : List UInt8) (v9 : Bool) : Option (List (TV E)) :=
  bif (decide (v3 < (v0.length : Int))) then (bif (decide ((0 : Int) ≤ v3) && decide (v3 < (v0.length : Int))) then (bif ((((List.getD v0 (Int.toNat v3) 0).toNat : Nat) : Int) == (58 : Int)) then G 0 (rmparse_C0 v0 v3 (w64 (v2 + (1 : Int))) (w64 (v3 + (1 : Int))) v4 v5 v6 v7 v8 v9) else G 0 (rmparse_C0 v0 v1 v2 (w64 (v3 + (1 : Int))) v4 v5 v6 v7 v8 v9)) else none) else (bif (bif (decide ((1 : Int) < v2)) then true else (v1 == (0 : Int))) then some [⟨.api_Mount, (⟨([] : List UInt8), ([] : List UInt8), false⟩ : Mount)⟩, ⟨.api_Errno, (3 : Int)⟩] else (bif (v2 == (1 : Int)) then (bif (decide ((0 : Int) ≤ (0 : Int)) && decide ((0 : Int) ≤ v1) && decide (v1 ≤ (v0.length : Int))) then (bif (decide ((0 : Int) ≤ (w64 (v1 + (1 : Int)))) && decide ((w64 (v1 + (1 : Int))) ≤ (v0.length : Int)) && decide ((v0.length : Int) ≤ (v0.length : Int))) then (bif (okM (⟨(List.take (Int.toNat v1 - Int.toNat (0 : Int)) (List.drop (Int.toNat (0 : Int)) v0)), (List.take (Int.toNat (v0.length : Int) - Int.toNat (w64 (v1 + (1 : Int)))) (List.drop (Int.toNat (w64 (v1 + (1 : Int)))) v0)), v9⟩ : Mount)) then (bif (!(rmright_r0 (⟨(List.take (Int.toNat v1 - Int.toNat (0 : Int)) (List.drop (Int.toNat (0 : Int)) v0)), (List.take (Int.toNat (v0.length : Int) - Int.toNat (w64 (v1 + (1 : Int)))) (List.drop (Int.toNat (w64 (v1 + (1 : Int)))) v0)), v9⟩ : Mount))) then some [⟨.api_Mount, (⟨([] : List UInt8), ([] : List UInt8), false⟩ : Mount)⟩, ⟨.api_Errno, (3 : Int)⟩] else some [⟨.api_Mount, (⟨(List.take (Int.toNat v1 - Int.toNat (0 : Int)) (List.drop (Int.toNat (0 : Int)) v0)), (List.take (Int.toNat (v0.length : Int) - Int.toNat (w64 (v1 + (1 : Int)))) (List.drop (Int.toNat (w64 (v1 + (1 : Int)))) v0)), v9⟩ : Mount)⟩, ⟨.api_Errno, (0 : Int)⟩]) else none) else none) else none) else (bif (decide ((0 : Int) ≤ (w64 (v1 + (1 : Int)))) && decide ((w64 (v1 + (1 : Int))) ≤ (v0.length : Int)) && decide ((v0.length : Int) ≤ (v0.length : Int))) then (bif (okM (⟨v7, (List.take (Int.toNat (v0.length : Int) - Int.toNat (w64 (v1 + (1 : Int)))) (List.drop (Int.toNat (w64 (v1 + (1 : Int)))) v0)), v9⟩ : Mount)) then (bif (!(rmright_r0 (⟨v7, (List.take (Int.toNat (v0.length : Int) - Int.toNat (w64 (v1 + (1 : Int)))) (List.drop (Int.toNat (w64 (v1 + (1 : Int)))) v0)), v9⟩ : Mount))) then some [⟨.api_Mount, (⟨([] : List UInt8), ([] : List UInt8), false⟩ : Mount)⟩, ⟨.api_Errno, (3 : Int)⟩] else some [⟨.api_Mount, (⟨v7, (List.take (Int.toNat (v0.length : Int) - Int.toNat (w64 (v1 + (1 : Int)))) (List.drop (Int.toNat (w64 (v1 + (1 : Int)))) v0)), v9⟩ : Mount)⟩, ⟨.api_Errno, (0 : Int)⟩]) else none) else none)))
theorem rmparse_l0 (G : Nat → ASt E → Option (List (TV E))) (v0 : List UInt8) (v1 : Int) (v2 : Int) (v3 : Int) (v4 : List UInt8) (v5 : List UInt8) (v6 : Bool) (v7 : List UInt8) (v8 : List UInt8) (v9 : Bool) : runL rmparse_O rmparse_H G Tryz.f95 0 (rmparse_C0 v0 v1 v2 v3 v4 v5 v6 v7 v8 v9) = rmparse_t0 G v0 v1 v2 v3 v4 v5 v6 v7 v8 v9 := by kernel_rfl
theorem rmparse_f : Tryz.prog.funcs[95]? = some Tryz.f95 := by kernel_rfl
theorem rmparse_n : (Tryz.f95.name == "runtime.NumGoroutine") = false := by kernel_rfl
theorem rmparse_b : Tryz.f95.body.isNone = false := by kernel_rfl
theorem rmparse_ex : ∃ fn, Tryz.prog.funcs[95]? = some fn ∧ (fn.name == "runtime.NumGoroutine") = false ∧ fn.body.isNone = false := ⟨Tryz.f95, rmparse_f, rmparse_n, rmparse_b⟩
theorem rmparse_hO : OracleOk E rmparse_O := orac_ok (.cons rmright_ok .nil) .nil .nil .nil
theorem rmparse_s0 {res : List (TV E)} {v0 : List UInt8} {v1 : Int} {v2 : Int} {v3 : Int} {v4 : List UInt8} {v5 : List UInt8} {v6 : Bool} {v7 : List UInt8} {v8 : List UInt8} {v9 : Bool} (h : rmparse_t0 (Gr E Tryz.f95 res) v0 v1 v2 v3 v4 v5 v6 v7 v8 v9 = some res) : Ev E Tryz.f95 res 0 (rmparse_C0 v0 v1 v2 v3 v4 v5 v6 v7 v8 v9) := Ev.step rmparse_hO mix ((rmparse_l0 _ v0 v1 v2 v3 v4 v5 v6 v7 v8 v9).trans h)
def rmparse_any (x0 : List UInt8) (p : Mount × Int) : Prop := rmparse_t (Gr E Tryz.f95 [⟨.api_Mount, p.1⟩, ⟨.api_Errno, p.2⟩]) x0 = some [⟨.api_Mount, p.1⟩, ⟨.api_Errno, p.2⟩] ∧ mpPr x0 p
noncomputable def rmparse_p (x0 : List UInt8) : Mount × Int := @Classical.epsilon _ ⟨(dflt .api_Mount, dflt .api_Errno)⟩ (rmparse_any x0)
noncomputable def rmparse_r0 (x0 : List UInt8) : Mount := (rmparse_p x0).1
noncomputable def rmparse_r1 (x0 : List UInt8) : Int := (rmparse_p x0).2
theorem rmparse_spec (x0 : List UInt8) (h : ∃ p, rmparse_any x0 p) : rmparse_any x0 (rmparse_p x0) := Classical.epsilon_spec h
noncomputable def rmparse_W : FnW E := fn12 (E := E) .str .api_Mount .api_Errno okL1 rmparse_r0 rmparse_r1
def rmparse_id : FuncId := 95
theorem rmparse_ok_of (h : ∀ (x0 : List UInt8), okL1 x0 = true → rmparse_t (Gr E Tryz.f95 [⟨.api_Mount, rmparse_r0 x0⟩, ⟨.api_Errno, rmparse_r1 x0⟩]) x0 = some [⟨.api_Mount, rmparse_r0 x0⟩, ⟨.api_Errno, rmparse_r1 x0⟩]) : FnOk E rmparse_id rmparse_W := fn12_ok rmparse_hO mix rmparse_f rmparse_n rmparse_b (fun x0 hk => (rmparse_e _ x0).trans (h x0 hk))
theorem rmparse_0 (s0 s : List UInt8) (hs : s.length ≤ 1000000) (u4 u5 : List UInt8) (u6 : Bool) (u8 : List UInt8) (ro : Bool) : ∀ (m i k : Nat) (a : Int), s.length - i = m → i ≤ s.length → k ≤ i → ((k = 0 ∧ a = -1) ∨ (1 ≤ k ∧ 0 ≤ a ∧ a < (s.length : Int))) →
    ∃ p : Mount × Int, mpPr s0 p ∧ Ev E Tryz.f95 [⟨.api_Mount, p.1⟩, ⟨.api_Errno, p.2⟩] 0 (rmparse_C0 s a k i u4 u5 u6 [] u8 ro) := by
  have z : ([] : List UInt8).length ≤ 1000000 := by simp
  intro m
  induction m with
  | zero =>
    intro i k a h1 h2 h3 h4
    refine anyS (fun _ h => rmparse_s0 h) ?_
    simp only [rmparse_t0, dge (show s.length ≤ i by omega), cond_false]
    by_cases hk : (1 : Int) < (k : Int)
    · rw [dT hk]; exact ⟨(⟨[], [], false⟩, 3), ⟨z, z⟩, rfl⟩
    · rw [dF hk]
      simp only [cond_false]
      by_cases ha : a = 0
      · rw [eqT ha]; exact ⟨(⟨[], [], false⟩, 3), ⟨z, z⟩, rfl⟩
      · rw [eqF ha]
        simp only [cond_false]
        rcases h4 with ⟨rfl, rfl⟩ | ⟨q1, q2, q3⟩
        · have e1 : w64 ((-1 : Int) + 1) = ((0 : Nat) : Int) := w64_id (n := 0) (by decide) (by decide)
          have o1 : okM ⟨[], s.drop 0, ro⟩ = true := okM_iff.2 ⟨by simp; omega, z⟩
          simp only [show (((0 : Nat) : Int) == 1) = false from rfl, cond_false, e1, d0, dle (Nat.zero_le s.length), dlr, Bool.and_self, cond_true, Int.toNat_natCast, cutN, o1]
          cases rmright_r0 ⟨[], s.drop 0, ro⟩ with
          | false => exact ⟨(⟨[], [], false⟩, 3), ⟨z, z⟩, rfl⟩
          | true => exact ⟨(⟨[], s.drop 0, ro⟩, 0), ⟨by simp only [List.length_drop]; omega, z⟩, rfl⟩
        · obtain ⟨b, rfl⟩ : ∃ b : Nat, a = b := ⟨a.toNat, by omega⟩
          have hk1 : k = 1 := by omega
          subst hk1
          have e1 : w64 ((b : Int) + 1) = ((b + 1 : Nat) : Int) := by rw [w64_id (by omega) (by omega)]; omega
          have o1 : okM ⟨s.take b, s.drop (b + 1), ro⟩ = true := okM_iff.2 ⟨by simp only [List.length_drop]; omega, by simp only [List.length_take]; omega⟩
          simp only [show (((1 : Nat) : Int) == 1) = true from rfl, cond_true, e1, d0, d00, dle (show b ≤ s.length by omega), dle (show b + 1 ≤ s.length by omega), dlr, Bool.and_self, Int.toNat_natCast, cutN, cutT, o1]
          cases rmright_r0 ⟨s.take b, s.drop (b + 1), ro⟩ with
          | false => exact ⟨(⟨[], [], false⟩, 3), ⟨z, z⟩, rfl⟩
          | true => exact ⟨(⟨s.take b, s.drop (b + 1), ro⟩, 0), ⟨by simp only [List.length_drop]; omega, by simp only [List.length_take]; omega⟩, rfl⟩
  | succ m ih =>
    intro i k a h1 h2 h3 h4
    have hi : i < s.length := by omega
    have e1 : w64 ((i : Int) + 1) = ((i + 1 : Nat) : Int) := by rw [w64_id (by omega) (by omega)]; omega
    have e2 : w64 ((k : Int) + 1) = ((k + 1 : Nat) : Int) := by rw [w64_id (by omega) (by omega)]; omega
    refine anyS (fun _ h => rmparse_s0 h) ?_
    simp only [rmparse_t0, dlt hi, d0, Bool.and_self, cond_true, e1, e2, Int.toNat_natCast]
    cases ((List.getD s i 0).toNat : Int) == 58 with
    | true => exact anyS (fun _ h => Gr_of h) (ih (i + 1) (k + 1) i (by omega) (by omega) (by omega) (.inr ⟨by omega, by omega, by omega⟩))
    | false => exact anyS (fun _ h => Gr_of h) (ih (i + 1) k a (by omega) (by omega) (by omega) h4)
theorem rmparse_tot (s : List UInt8) (hs : s.length ≤ 1000000) : ∃ p, rmparse_any s p := by
  have flip : (∃ p, mpPr s p ∧ rmparse_t (Gr E Tryz.f95 [⟨.api_Mount, p.1⟩, ⟨.api_Errno, p.2⟩]) s = some [⟨.api_Mount, p.1⟩, ⟨.api_Errno, p.2⟩]) → ∃ p, rmparse_any s p := fun ⟨p, h1, h2⟩ => ⟨p, h2, h1⟩
  refine flip ?_
  by_cases h3 : 3 ≤ s.length
  · have e4 : w64 ((s.length : Int) - 3) = ((s.length - 3 : Nat) : Int) := by rw [w64_id (by omega) (by omega)]; omega
    have e5 : w64 ((s.length : Int) - 1) = ((s.length - 1 : Nat) : Int) := by rw [w64_id (by omega) (by omega)]; omega
    simp only [rmparse_t, e4, e5, d0, d00, dle (show s.length - 3 ≤ s.length by omega), dlt (show s.length - 1 < s.length by omega), dlr, Bool.and_self, Bool.true_or, cond_true, Int.toNat_natCast, cutN, cutT]
    cases (bif decide ((3 : Int) ≤ (s.length : Int)) then (bif List.drop (s.length - 3) s == [58, 114, 111] then true else List.drop (s.length - 3) s == [58, 114, 119]) else false) with
    | true => exact anyS (fun _ h => Gr_of h) (rmparse_0 s (s.take (s.length - 3)) (by rw [List.length_take]; omega) _ _ _ _ _ _ 0 0 (-1) rfl (Nat.zero_le _) (Nat.le_refl _) (.inl ⟨rfl, rfl⟩))
    | false => exact anyS (fun _ h => Gr_of h) (rmparse_0 s s hs _ _ _ _ _ _ 0 0 (-1) rfl (Nat.zero_le _) (Nat.le_refl _) (.inl ⟨rfl, rfl⟩))
  · have d3 : decide ((3 : Int) ≤ (s.length : Int)) = false := dF (by omega)
    simp only [rmparse_t, d3, Bool.not_false, Bool.false_and, Bool.or_true, cond_true, cond_false]
    exact anyS (fun _ h => Gr_of h) (rmparse_0 s s hs _ _ _ _ _ _ 0 0 (-1) rfl (Nat.zero_le _) (Nat.le_refl _) (.inl ⟨rfl, rfl⟩))
theorem rmparse_ok : FnOk E rmparse_id rmparse_W := rmparse_ok_of fun s hk => (rmparse_spec s (rmparse_tot s (okL1_iff.1 hk))).1
theorem rmparse_pr {s : List UInt8} (hs : s.length ≤ 1000000) : (rmparse_r0 s).target.length ≤ 1000000 ∧ (rmparse_r0 s).source.length ≤ 1000000 := (rmparse_spec s (rmparse_tot s hs)).2
end Go.Proofs.YtoelhlikomifjaaGreat.Rf