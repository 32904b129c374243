/- The reference's names and nodes (02, 08), by the Mirror. -/
import Derived.Test.YtfoflgciceckoaaGreatDoorR1
import Derived.Sort.Walk0
namespace Go.Proofs.YtfoflgciceckoaaGreatDoor.Rf
open Go Go.RowKit Go.Sort Go.Proofs.YtfoflgciceckoaaGreatDoor.Mir
/-! ### The reference's names (02) -/
def kindV (c : Int) : Int := bif (bif decide (97 ≤ c) then decide (c ≤ 122) else false) then 1 else bif (bif decide (65 ≤ c) then decide (c ≤ 90) else false) then 2 else bif (bif decide (48 ≤ c) then decide (c ≤ 57) else false) then 3 else bif c == 95 then 4 else bif c == 45 then 5 else bif c == 46 then 6 else 0
noncomputable def kindf_W : FnW E := fn1 (E := E) .byte .int (fun _ => true) kindV
def kindf_id : FuncId := 141
noncomputable def kindf_O : Oracle E := orac [] [] [] []
noncomputable def kindf_H : Hint E := Hint.mk [] [] [] [] []
noncomputable def kindf_t (_G : Nat → ASt E → Option (List (TV E))) (x0 : Int) : Option (List (TV E)) :=
  bif (bif (decide ((97 : Int) ≤ x0)) then (decide (x0 ≤ (122 : Int))) else false) then some [⟨.int, (1 : Int)⟩] else (bif (bif (decide ((65 : Int) ≤ x0)) then (decide (x0 ≤ (90 : Int))) else false) then some [⟨.int, (2 : Int)⟩] else (bif (bif (decide ((48 : Int) ≤ x0)) then (decide (x0 ≤ (57 : Int))) else false) then some [⟨.int, (3 : Int)⟩] else (bif (x0 == (95 : Int)) then some [⟨.int, (4 : Int)⟩] else (bif (x0 == (45 : Int)) then some [⟨.int, (5 : Int)⟩] else (bif (x0 == (46 : Int)) then some [⟨.int, (6 : Int)⟩] else some [⟨.int, (0 : Int)⟩])))))
theorem kindf_e (G : Nat → ASt E → Option (List (TV E))) (x0 : Int) : runE kindf_O kindf_H G Tryz.f141 [⟨.byte, x0⟩] = kindf_t G x0 := by kernel_rfl
theorem kindf_f : Tryz.prog.funcs[141]? = some Tryz.f141 := by kernel_rfl
theorem kindf_n : (Tryz.f141.name == "runtime.NumGoroutine") = false := by kernel_rfl
theorem kindf_b : Tryz.f141.body.isNone = false := by kernel_rfl
theorem kindf_ex : ∃ fn, Tryz.prog.funcs[141]? = some fn ∧ (fn.name == "runtime.NumGoroutine") = false ∧ fn.body.isNone = false := ⟨Tryz.f141, kindf_f, kindf_n, kindf_b⟩
theorem kindf_hO : OracleOk E kindf_O := orac_ok .nil .nil .nil .nil
theorem kindf_ok_of (h : ∀ (x0 : Int), kindf_t (Gr E Tryz.f141 [⟨.int, kindV x0⟩]) x0 = some [⟨.int, kindV x0⟩]) : FnOk E kindf_id kindf_W := fn1_ok kindf_hO mix kindf_f kindf_n kindf_b (fun x0 _ => (kindf_e _ x0).trans (h x0))
theorem kindf_ok : FnOk E kindf_id kindf_W := kindf_ok_of fun c => by
  simp only [kindf_t, kindV]
  cases (bif decide (97 ≤ c) then decide (c ≤ 122) else false) <;> cases (bif decide (65 ≤ c) then decide (c ≤ 90) else false) <;> cases (bif decide (48 ≤ c) then decide (c ≤ 57) else false) <;> cases c == 95 <;> cases c == 45 <;> cases c == 46 <;> rfl
/-- A name: what no first byte, or no later one, may be. -/
def nmL (f : UInt8 → Bool → Bool) : List UInt8 → Bool → Bool
  | [], _ => true
  | c :: t, b => bif f c b then false else nmL f t false
def kc (c : UInt8) : Int := kindV ((c.toNat : Int))
def badS (c : UInt8) (b : Bool) : Bool := bif kc c == 0 then true else (bif b then decide (3 < kc c) else false)
def badP (c : UInt8) (b : Bool) : Bool := bif (bif (bif kc c == 0 then true else kc c == 2) then true else kc c == 6) then true else (bif b then decide (3 < kc c) else false)
def nameV (f : UInt8 → Bool → Bool) (s : List UInt8) : Bool := bif (bif decide ((s.length : Int) < 1) then true else decide ((24 : Int) < (s.length : Int))) then false else nmL f s true
noncomputable def rservice_W : FnW E := fn1 (E := E) .str .bool (fun _ => true) (nameV badS)
def rservice_id : FuncId := 94
noncomputable def rservice_O : Oracle E := orac [(141, kindf_W)] [] [] []
noncomputable def rservice_H : Hint E := Hint.mk [(0, [0, 3])] [] [] [] []
noncomputable def rservice_C0 (v0 : List UInt8) (v1 : Int) : ASt E := ASt.mk 33 [(0, .d (.str v0)), (3, .d (.int .i64 v1))] [] 0
noncomputable def rservice_t (G : Nat → ASt E → Option (List (TV E))) (x0 : List UInt8) : Option (List (TV E)) :=
  bif (bif (decide ((x0.length : Int) < (1 : Int))) then true else (decide ((24 : Int) < (x0.length : Int)))) then some [⟨.bool, false⟩] else G 0 (rservice_C0 x0 (0 : Int))
theorem rservice_e (G : Nat → ASt E → Option (List (TV E))) (x0 : List UInt8) : runE rservice_O rservice_H G Tryz.f94 [⟨.str, x0⟩] = rservice_t G x0 := by kernel_rfl
noncomputable def rservice_t0 (G : Nat → ASt E → Option (List (TV E))) (v0 : List UInt8) (v1 : Int) : Option (List (TV E)) :=
  bif (decide (v1 < (v0.length : Int))) then (bif (decide ((0 : Int) ≤ v1) && decide (v1 < (v0.length : Int))) then (bif (bif ((kindV (((List.getD v0 (Int.toNat v1) 0).toNat : Nat) : Int)) == (0 : Int)) then true else (bif (v1 == (0 : Int)) then (decide ((3 : Int) < (kindV (((List.getD v0 (Int.toNat v1) 0).toNat : Nat) : Int)))) else false)) then some [⟨.bool, false⟩] else G 0 (rservice_C0 v0 (w64 (v1 + (1 : Int))))) else none) else some [⟨.bool, true⟩]
theorem rservice_l0 (G : Nat → ASt E → Option (List (TV E))) (v0 : List UInt8) (v1 : Int) : runL rservice_O rservice_H G Tryz.f94 0 (rservice_C0 v0 v1) = rservice_t0 G v0 v1 := by kernel_rfl
theorem rservice_f : Tryz.prog.funcs[94]? = some Tryz.f94 := by kernel_rfl
theorem rservice_n : (Tryz.f94.name == "runtime.NumGoroutine") = false := by kernel_rfl
theorem rservice_b : Tryz.f94.body.isNone = false := by kernel_rfl
theorem rservice_ex : ∃ fn, Tryz.prog.funcs[94]? = some fn ∧ (fn.name == "runtime.NumGoroutine") = false ∧ fn.body.isNone = false := ⟨Tryz.f94, rservice_f, rservice_n, rservice_b⟩
theorem rservice_hO : OracleOk E rservice_O := orac_ok (.cons kindf_ok .nil) .nil .nil .nil
theorem rservice_s0 {res : List (TV E)} {v0 : List UInt8} {v1 : Int} (h : rservice_t0 (Gr E Tryz.f94 res) v0 v1 = some res) : Ev E Tryz.f94 res 0 (rservice_C0 v0 v1) := Ev.step rservice_hO mix ((rservice_l0 _ v0 v1).trans h)
theorem rservice_ok_of (h : ∀ (x0 : List UInt8), rservice_t (Gr E Tryz.f94 [⟨.bool, (nameV badS) x0⟩]) x0 = some [⟨.bool, (nameV badS) x0⟩]) : FnOk E rservice_id rservice_W := fn1_ok rservice_hO mix rservice_f rservice_n rservice_b (fun x0 _ => (rservice_e _ x0).trans (h x0))
theorem rservice_loop (s : List UInt8) (hs : s.length ≤ 24) : ∀ (m i : Nat), s.length - i = m → i ≤ s.length →
    Ev E Tryz.f94 [⟨.bool, nmL badS (s.drop i) ((i : Int) == 0)⟩] 0 (rservice_C0 s i) := by
  intro m
  induction m with
  | zero =>
    intro i h1 h2
    refine rservice_s0 ?_
    simp only [rservice_t0, dge (show s.length ≤ i by omega), cond_false, List.drop_eq_nil_of_le (show s.length ≤ i by omega)]
    rfl
  | succ m ih =>
    intro i h1 h2
    have hi : i < s.length := by omega
    have e3 : w64 ((i : Int) + 1) = ((i + 1 : Nat) : Int) := by rw [w64_id (by omega) (by omega)]; omega
    refine rservice_s0 ?_
    simp only [rservice_t0, dlt hi, d0, gd s _ i hi, Bool.and_self, cond_true, e3]
    rw [← List.getElem_cons_drop hi]
    simp only [nmL]
    change (bif badS s[i] ((i : Int) == 0) then _ else _) = _
    cases badS s[i] ((i : Int) == 0) with
    | true => rfl
    | false =>
      have := Gr_of (ih (i + 1) (by omega) (by omega))
      rw [eqF (show ((i + 1 : Nat) : Int) ≠ 0 by omega)] at this
      exact this
theorem rservice_ok : FnOk E rservice_id rservice_W := rservice_ok_of fun s => by
  simp only [rservice_t, nameV]
  cases hg : (bif decide ((s.length : Int) < 1) then true else decide ((24 : Int) < (s.length : Int))) with
  | true => rfl
  | false =>
    have hs : s.length ≤ 24 := by
      by_cases a : (s.length : Int) < 1
      · omega
      · rw [dF a, cond_false] at hg
        have : ¬ (24 : Int) < (s.length : Int) := by simpa using hg
        omega
    have := Gr_of (rservice_loop s hs s.length 0 (by omega) (by omega))
    rw [List.drop_zero] at this
    exact this
def badV (c : UInt8) (b : Bool) : Bool := bif (bif kc c == 0 then true else decide (4 < kc c)) then true else (bif b then kc c == 3 else false)
noncomputable def rvariable_W : FnW E := fn1 (E := E) .str .bool (fun _ => true) (nameV badV)
def rvariable_id : FuncId := 139
noncomputable def rvariable_O : Oracle E := orac [(141, kindf_W)] [] [] []
noncomputable def rvariable_H : Hint E := Hint.mk [(0, [0, 3])] [] [] [] []
noncomputable def rvariable_C0 (v0 : List UInt8) (v1 : Int) : ASt E := ASt.mk 37 [(0, .d (.str v0)), (3, .d (.int .i64 v1))] [] 0
noncomputable def rvariable_t (G : Nat → ASt E → Option (List (TV E))) (x0 : List UInt8) : Option (List (TV E)) :=
  bif (bif (decide ((x0.length : Int) < (1 : Int))) then true else (decide ((24 : Int) < (x0.length : Int)))) then some [⟨.bool, false⟩] else G 0 (rvariable_C0 x0 (0 : Int))
theorem rvariable_e (G : Nat → ASt E → Option (List (TV E))) (x0 : List UInt8) : runE rvariable_O rvariable_H G Tryz.f139 [⟨.str, x0⟩] = rvariable_t G x0 := by kernel_rfl
noncomputable def rvariable_t0 (G : Nat → ASt E → Option (List (TV E))) (v0 : List UInt8) (v1 : Int) : Option (List (TV E)) :=
  bif (decide (v1 < (v0.length : Int))) then (bif (decide ((0 : Int) ≤ v1) && decide (v1 < (v0.length : Int))) then (bif (bif (bif ((kindV (((List.getD v0 (Int.toNat v1) 0).toNat : Nat) : Int)) == (0 : Int)) then true else (decide ((4 : Int) < (kindV (((List.getD v0 (Int.toNat v1) 0).toNat : Nat) : Int))))) then true else (bif (v1 == (0 : Int)) then ((kindV (((List.getD v0 (Int.toNat v1) 0).toNat : Nat) : Int)) == (3 : Int)) else false)) then some [⟨.bool, false⟩] else G 0 (rvariable_C0 v0 (w64 (v1 + (1 : Int))))) else none) else some [⟨.bool, true⟩]
theorem rvariable_l0 (G : Nat → ASt E → Option (List (TV E))) (v0 : List UInt8) (v1 : Int) : runL rvariable_O rvariable_H G Tryz.f139 0 (rvariable_C0 v0 v1) = rvariable_t0 G v0 v1 := by kernel_rfl
theorem rvariable_f : Tryz.prog.funcs[139]? = some Tryz.f139 := by kernel_rfl
theorem rvariable_n : (Tryz.f139.name == "runtime.NumGoroutine") = false := by kernel_rfl
theorem rvariable_b : Tryz.f139.body.isNone = false := by kernel_rfl
theorem rvariable_ex : ∃ fn, Tryz.prog.funcs[139]? = some fn ∧ (fn.name == "runtime.NumGoroutine") = false ∧ fn.body.isNone = false := ⟨Tryz.f139, rvariable_f, rvariable_n, rvariable_b⟩
theorem rvariable_hO : OracleOk E rvariable_O := orac_ok (.cons kindf_ok .nil) .nil .nil .nil
theorem rvariable_s0 {res : List (TV E)} {v0 : List UInt8} {v1 : Int} (h : rvariable_t0 (Gr E Tryz.f139 res) v0 v1 = some res) : Ev E Tryz.f139 res 0 (rvariable_C0 v0 v1) := Ev.step rvariable_hO mix ((rvariable_l0 _ v0 v1).trans h)
theorem rvariable_ok_of (h : ∀ (x0 : List UInt8), rvariable_t (Gr E Tryz.f139 [⟨.bool, (nameV badV) x0⟩]) x0 = some [⟨.bool, (nameV badV) x0⟩]) : FnOk E rvariable_id rvariable_W := fn1_ok rvariable_hO mix rvariable_f rvariable_n rvariable_b (fun x0 _ => (rvariable_e _ x0).trans (h x0))
theorem rvariable_0 (s : List UInt8) (hs : s.length ≤ 24) : ∀ (m i : Nat), s.length - i = m → i ≤ s.length → 
    Ev E Tryz.f139 [⟨.bool, nmL badV (s.drop i) ((i : Int) == 0)⟩] 0 (rvariable_C0 s i) := by
  intro m
  induction m with
  | zero =>
    intro i  h1 h2
    refine rvariable_s0 ?_
    simp only [rvariable_t0, dge (show s.length ≤ i by omega), cond_false, List.drop_eq_nil_of_le (show s.length ≤ i by omega)]
    rfl
  | succ m ih2 =>
    intro i  h1 h2
    have hi : i < s.length := by omega
    have e3 : w64 ((i : Int) + 1) = ((i + 1 : Nat) : Int) := by rw [w64_id (by omega) (by omega)]; omega
    refine rvariable_s0 ?_
    simp only [rvariable_t0, dlt hi, d0, gd s _ i hi, e3, Bool.and_self, Bool.true_or, cond_true]
    rw [← List.getElem_cons_drop hi]
    simp only [nmL]
    change (bif badV s[i] ((i : Int) == 0) then _ else _) = _
    cases badV s[i] ((i : Int) == 0) with
    | true => rfl
    | false =>
      have := Gr_of (ih2 (i + 1) (by omega) (by omega))
      rw [eqF (show ((i + 1 : Nat) : Int) ≠ 0 by omega)] at this
      exact this
theorem rvariable_ok : FnOk E rvariable_id rvariable_W := rvariable_ok_of fun s => by
  simp only [rvariable_t, nameV]
  cases hg : (bif decide ((s.length : Int) < 1) then true else decide ((24 : Int) < (s.length : Int))) with
  | true => rfl
  | false =>
    have hs : s.length ≤ 24 := by
      by_cases a : (s.length : Int) < 1
      · omega
      · rw [dF a, cond_false] at hg
        have : ¬ (24 : Int) < (s.length : Int) := by simpa using hg
        omega
    have := Gr_of (rvariable_0 s hs s.length 0 (by omega) (by omega))
    rw [List.drop_zero] at this
    exact this
theorem nameV_len {f : UInt8 → Bool → Bool} {s : List UInt8} (h : nameV f s = true) : 1 ≤ s.length ∧ s.length ≤ 24 := by
  unfold nameV at h
  by_cases a : (s.length : Int) < 1
  · rw [dT a] at h; cases h
  · by_cases b : (24 : Int) < (s.length : Int)
    · rw [dF a, dT b] at h; cases h
    · omega
/-! Lists of texts -/
def inV (l : List (List UInt8)) (s : List UInt8) : Bool := l.any (· == s)
noncomputable def rin_W : FnW E := fn2 (E := E) .l_str .str .bool (fun l _ => ln6 l) inV
def rin_id : FuncId := 91
noncomputable def rin_O : Oracle E := orac [] [] [] []
noncomputable def rin_H : Hint E := Hint.mk [(0, [0, 1, 5])] [] [] [] []
noncomputable def rin_C0 (v0 : List (List UInt8)) (v1 : List UInt8) (v2 : Int) : ASt E := ASt.mk 18 [(0, .d (.slice .str v0)), (1, .d (.str v1)), (5, .d (.int .i64 v2))] [] 0
noncomputable def rin_t (G : Nat → ASt E → Option (List (TV E))) (x0 : List (List UInt8)) (x1 : List UInt8) : Option (List (TV E)) :=
  G 0 (rin_C0 x0 x1 (0 : Int))
theorem rin_e (G : Nat → ASt E → Option (List (TV E))) (x0 : List (List UInt8)) (x1 : List UInt8) : runE rin_O rin_H G Tryz.f91 [⟨.l_str, x0⟩, ⟨.str, x1⟩] = rin_t G x0 x1 := by kernel_rfl
noncomputable def rin_t0 (G : Nat → ASt E → Option (List (TV E))) (v0 : List (List UInt8)) (v1 : List UInt8) (v2 : Int) : Option (List (TV E)) :=
  bif (decide (v2 < (v0.length : Int))) then (bif (decide ((0 : Int) ≤ v2) && decide (v2 < (v0.length : Int))) then (bif ((List.getD v0 (Int.toNat v2) (dflt .str)) == v1) then some [⟨.bool, true⟩] else G 0 (rin_C0 v0 v1 (w64 (v2 + (1 : Int))))) else none) else some [⟨.bool, false⟩]
theorem rin_l0 (G : Nat → ASt E → Option (List (TV E))) (v0 : List (List UInt8)) (v1 : List UInt8) (v2 : Int) : runL rin_O rin_H G Tryz.f91 0 (rin_C0 v0 v1 v2) = rin_t0 G v0 v1 v2 := by kernel_rfl
theorem rin_f : Tryz.prog.funcs[91]? = some Tryz.f91 := by kernel_rfl
theorem rin_n : (Tryz.f91.name == "runtime.NumGoroutine") = false := by kernel_rfl
theorem rin_b : Tryz.f91.body.isNone = false := by kernel_rfl
theorem rin_ex : ∃ fn, Tryz.prog.funcs[91]? = some fn ∧ (fn.name == "runtime.NumGoroutine") = false ∧ fn.body.isNone = false := ⟨Tryz.f91, rin_f, rin_n, rin_b⟩
theorem rin_hO : OracleOk E rin_O := orac_ok .nil .nil .nil .nil
theorem rin_s0 {res : List (TV E)} {v0 : List (List UInt8)} {v1 : List UInt8} {v2 : Int} (h : rin_t0 (Gr E Tryz.f91 res) v0 v1 v2 = some res) : Ev E Tryz.f91 res 0 (rin_C0 v0 v1 v2) := Ev.step rin_hO mix ((rin_l0 _ v0 v1 v2).trans h)
theorem rin_ok_of (h : ∀ (x0 : List (List UInt8)) (x1 : List UInt8), (fun l _ => ln6 l) x0 x1 = true → rin_t (Gr E Tryz.f91 [⟨.bool, inV x0 x1⟩]) x0 x1 = some [⟨.bool, inV x0 x1⟩]) : FnOk E rin_id rin_W := fn2_ok rin_hO mix rin_f rin_n rin_b (fun x0 x1 hk => (rin_e _ x0 x1).trans (h x0 x1 hk))
theorem rin_0 (l : List (List UInt8)) (s : List UInt8) (hs : l.length ≤ 1000000) : ∀ (m i : Nat), l.length - i = m → i ≤ l.length → 
    Ev E Tryz.f91 [⟨.bool, (l.drop i).any (· == s)⟩] 0 (rin_C0 l s i) := by
  intro m
  induction m with
  | zero =>
    intro i  h1 h2
    refine rin_s0 ?_
    simp only [rin_t0, dge (show l.length ≤ i by omega), cond_false, List.drop_eq_nil_of_le (show l.length ≤ i by omega)]
    rfl
  | succ m ih2 =>
    intro i  h1 h2
    have hi : i < l.length := by omega
    have e3 : w64 ((i : Int) + 1) = ((i + 1 : Nat) : Int) := by rw [w64_id (by omega) (by omega)]; omega
    refine rin_s0 ?_
    simp only [rin_t0, dlt hi, d0, gd l _ i hi, e3, Bool.and_self, Bool.true_or, cond_true]
    rw [← List.getElem_cons_drop hi]
    rw [List.any_cons]
    cases l[i] == s with
    | true => rfl
    | false => exact Gr_of (ih2 (i + 1) (by omega) (by omega))
theorem rin_ok : FnOk E rin_id rin_W := rin_ok_of fun l s hk => by
  have := Gr_of (rin_0 l s (ln6_iff.1 hk) l.length 0 (by omega) (by omega))
  rw [List.drop_zero] at this
  exact this
/-! ### The reference's lists of texts (02) -/
def lastLt (out : List (List UInt8)) (x : List UInt8) : Bool := match out.getLast? with
  | none => true
  | some z => decide (z < x)
theorem last_at (out : List (List UInt8)) (z : List UInt8) (hl : out.length ≤ 1000000) : List.getD (out ++ [z]) (Int.toNat (w64 ((((out ++ [z]).length : Nat) : Int) - 1))) (dflt .str) = z := by
  rw [List.length_append, List.length_singleton, w64_id (by omega) (by omega), show (((out.length + 1 : Nat) : Int) - 1) = (out.length : Int) from by omega, gd _ _ out.length (by simp)]
  simp
theorem cExpr (out : List (List UInt8)) (x : List UInt8) (hl : out.length ≤ 1000000) :
    (bif (((out.length : Nat) : Int) == (0 : Int)) then true else (!(Op.bytesLess x (List.getD out (Int.toNat (w64 (((out.length : Nat) : Int) - 1))) (dflt .str)) || x == (List.getD out (Int.toNat (w64 (((out.length : Nat) : Int) - 1))) (dflt .str))))) = lastLt out x := by
  rcases List.eq_nil_or_concat out with rfl | ⟨o, z, rfl⟩
  · rfl
  · rw [List.concat_eq_append] at hl ⊢
    rw [last_at o z (by simp at hl; omega), eqF (by simp; omega), cond_false, Go.Proofs.bytesLess_eq]
    unfold lastLt
    rw [List.getLast?_concat]
    simp only
    rcases Pl.s_tri z x with h | h | h
    · have h1 : ¬ x < z := Pl.s_asymm h
      have h2 : x ≠ z := fun e => by subst e; exact Pl.s_irrefl _ h
      simp [h, h1, h2]
    · subst h
      simp [Pl.s_irrefl]
    · have h1 : ¬ z < x := Pl.s_asymm h
      simp [h, h1]
theorem okLast (out : List (List UInt8)) (hl : out.length ≤ 1000000) : ((decide ((0 : Int) ≤ (w64 (((out.length : Nat) : Int) - 1))) && decide ((w64 (((out.length : Nat) : Int) - 1)) < (out.length : Nat))) || !(!(((out.length : Nat) : Int) == (0 : Int)))) = true := by
  by_cases h : out.length = 0
  · rw [h]; rfl
  · rw [w64_id (by omega) (by omega), dT (by omega), dT (by omega)]; rfl
/-- What has been found so far is in order, of the list, and nothing between is left out. -/
structure Pre (l out : List (List UInt8)) : Prop where
  ss : Pl.SS out
  sub : ∀ x ∈ out, x ∈ l
  low : ∀ y ∈ l, y ∉ out → ∀ x ∈ out, x < y
theorem Pre.last {l out : List (List UInt8)} (h : Pre l out) {x : List UInt8} (hx : x ∈ l) : lastLt out x = true ↔ x ∉ out := by
  unfold lastLt
  rcases List.eq_nil_or_concat out with rfl | ⟨o, z, rfl⟩
  · simp
  · rw [List.concat_eq_append] at h ⊢
    rw [List.getLast?_concat]
    simp only [decide_eq_true_eq]
    constructor
    · intro hz hm
      have hs := h.ss
      unfold Pl.SS at hs
      rw [List.pairwise_append] at hs
      rcases List.mem_append.1 hm with hm | hm
      · exact Pl.s_asymm hz (hs.2.2 x hm z (by simp))
      · have : x = z := by simpa using hm
        subst this
        exact Pl.s_irrefl _ hz
    · exact fun hn => h.low x hx hn z (by simp)
def lack (l out : List (List UInt8)) : Nat := l.countP fun x => !decide (x ∈ out)
theorem lack_step (out : List (List UInt8)) (z : List UInt8) (hz : z ∉ out) : ∀ (l : List (List UInt8)), lack l (out ++ [z]) ≤ lack l out ∧ (z ∈ l → lack l (out ++ [z]) + 1 ≤ lack l out)
  | [] => ⟨Nat.le_refl _, fun h => by cases h⟩
  | a :: t => by
    obtain ⟨h1, h2⟩ := lack_step out z hz t
    unfold lack at *
    simp only [List.countP_cons]
    by_cases e : a = z
    · subst e
      have k1 : (!decide (a ∈ out ++ [a])) = false := by simp
      have k2 : (!decide (a ∈ out)) = true := by simpa using hz
      rw [k1, k2]
      simp only [Bool.false_eq_true, if_false, if_true]
      exact ⟨by omega, fun _ => by omega⟩
    · have k : (!decide (a ∈ out ++ [z])) = (!decide (a ∈ out)) := by simp [e]
      rw [k]
      refine ⟨by omega, fun hm => ?_⟩
      have := h2 ((List.mem_cons.1 hm).resolve_left (fun h => e h.symm))
      omega
/-- The place of the least one that is lacking among the first i. -/
def Best (l out : List (List UInt8)) (i : Nat) (b : Int) : Prop :=
  (b = -1 ∧ ∀ (k : Nat) x, k < i → l[k]? = some x → x ∈ out) ∨ ∃ (j : Nat) (z : List UInt8), j < i ∧ b = (j : Int) ∧ l[j]? = some z ∧ z ∉ out ∧ ∀ (k : Nat) x, k < i → l[k]? = some x → x ∉ out → z ≤ x
noncomputable def rsorted_W : FnW E := fn1 (E := E) .l_str .l_str ln6 Pl.sortD
def rsorted_id : FuncId := 13
noncomputable def rsorted_O : Oracle E := orac [] [] [] []
noncomputable def rsorted_H : Hint E := Hint.mk [(0, [0, 3]), (1, [0, 3, 4, 5])] [] [] [] []
noncomputable def rsorted_C0 (v0 : List (List UInt8)) (v1 : Nat) (v2 : List (List UInt8)) : ASt E := ASt.mk 55 [(0, .d (.slice .str v0)), (3, .row .str v1 0)] [(0, .row .str v2)] 1
noncomputable def rsorted_C1 (v0 : List (List UInt8)) (v1 : Nat) (v2 v3 : Int) (v4 : List (List UInt8)) : ASt E := ASt.mk 55 [(0, .d (.slice .str v0)), (3, .row .str v1 0), (4, .d (.int .i64 v2)), (5, .d (.int .i64 v3))] [(0, .row .str v4)] 1
noncomputable def rsorted_t (G : Nat → ASt E → Option (List (TV E))) (x0 : List (List UInt8)) : Option (List (TV E)) :=
  G 0 (rsorted_C0 x0 0 ([] : List (List UInt8)))
theorem rsorted_e (G : Nat → ASt E → Option (List (TV E))) (x0 : List (List UInt8)) : runE rsorted_O rsorted_H G Tryz.f13 [⟨.l_str, x0⟩] = rsorted_t G x0 := by kernel_rfl
noncomputable def rsorted_t0 (G : Nat → ASt E → Option (List (TV E))) (v0 : List (List UInt8)) (v1 : Nat) (v2 : List (List UInt8)) : Option (List (TV E)) :=
  G 1 (rsorted_C1 v0 v1 (-1 : Int) (0 : Int) v2)
theorem rsorted_l0 (G : Nat → ASt E → Option (List (TV E))) (v0 : List (List UInt8)) (v1 : Nat) (v2 : List (List UInt8)) : runL rsorted_O rsorted_H G Tryz.f13 0 (rsorted_C0 v0 v1 v2) = rsorted_t0 G v0 v1 v2 := by kernel_rfl
noncomputable def rsorted_t1 (G : Nat → ASt E → Option (List (TV E))) (v0 : List (List UInt8)) (v1 : Nat) (v2 v3 : Int) (v4 : List (List UInt8)) : Option (List (TV E)) :=
  bif (decide (v3 < (v0.length : Int))) then (bif ((decide ((0 : Int) ≤ v3) && decide (v3 < (v0.length : Int))) || !(!(((v1 : Nat) : Int) == (0 : Int)))) then (bif ((decide ((0 : Int) ≤ (w64 (((v1 : Nat) : Int) - (1 : Int)))) && decide ((w64 (((v1 : Nat) : Int) - (1 : Int))) < (v1 : Nat))) || !(!(((v1 : Nat) : Int) == (0 : Int)))) then (bif ((decide ((0 : Int) ≤ v3) && decide (v3 < (v0.length : Int))) || !((bif (((v1 : Nat) : Int) == (0 : Int)) then true else (!(Op.bytesLess (List.getD v0 (Int.toNat v3) (dflt .str)) (List.getD v4 (Int.toNat (w64 (((v1 : Nat) : Int) - (1 : Int)))) (dflt .str)) || (List.getD v0 (Int.toNat v3) (dflt .str)) == (List.getD v4 (Int.toNat (w64 (((v1 : Nat) : Int) - (1 : Int)))) (dflt .str))))) && (!(decide (v2 < (0 : Int)))))) then (bif ((decide ((0 : Int) ≤ v2) && decide (v2 < (v0.length : Int))) || !((bif (((v1 : Nat) : Int) == (0 : Int)) then true else (!(Op.bytesLess (List.getD v0 (Int.toNat v3) (dflt .str)) (List.getD v4 (Int.toNat (w64 (((v1 : Nat) : Int) - (1 : Int)))) (dflt .str)) || (List.getD v0 (Int.toNat v3) (dflt .str)) == (List.getD v4 (Int.toNat (w64 (((v1 : Nat) : Int) - (1 : Int)))) (dflt .str))))) && (!(decide (v2 < (0 : Int)))))) then (bif (bif (bif (((v1 : Nat) : Int) == (0 : Int)) then true else (!(Op.bytesLess (List.getD v0 (Int.toNat v3) (dflt .str)) (List.getD v4 (Int.toNat (w64 (((v1 : Nat) : Int) - (1 : Int)))) (dflt .str)) || (List.getD v0 (Int.toNat v3) (dflt .str)) == (List.getD v4 (Int.toNat (w64 (((v1 : Nat) : Int) - (1 : Int)))) (dflt .str))))) then (bif (decide (v2 < (0 : Int))) then true else (Op.bytesLess (List.getD v0 (Int.toNat v3) (dflt .str)) (List.getD v0 (Int.toNat v2) (dflt .str)))) else false) then G 1 (rsorted_C1 v0 v1 v3 (w64 (v3 + (1 : Int))) v4) else G 1 (rsorted_C1 v0 v1 v2 (w64 (v3 + (1 : Int))) v4)) else none) else none) else none) else none) else (bif (decide (v2 < (0 : Int))) then some [⟨.l_str, v4⟩] else (bif (decide ((0 : Int) ≤ v2) && decide (v2 < (v0.length : Int))) then (bif (decide ((v4.length + ([(List.getD v0 (Int.toNat v2) (dflt .str))] : List (List UInt8)).length) * 16 ≤ maxBytes)) then G 0 (rsorted_C0 v0 (v4.length + ([(List.getD v0 (Int.toNat v2) (dflt .str))] : List (List UInt8)).length) (v4 ++ ([(List.getD v0 (Int.toNat v2) (dflt .str))] : List (List UInt8)))) else none) else none))
theorem rsorted_l1 (G : Nat → ASt E → Option (List (TV E))) (v0 : List (List UInt8)) (v1 : Nat) (v2 v3 : Int) (v4 : List (List UInt8)) : runL rsorted_O rsorted_H G Tryz.f13 1 (rsorted_C1 v0 v1 v2 v3 v4) = rsorted_t1 G v0 v1 v2 v3 v4 := by kernel_rfl
theorem rsorted_f : Tryz.prog.funcs[13]? = some Tryz.f13 := by kernel_rfl
theorem rsorted_n : (Tryz.f13.name == "runtime.NumGoroutine") = false := by kernel_rfl
theorem rsorted_b : Tryz.f13.body.isNone = false := by kernel_rfl
theorem rsorted_ex : ∃ fn, Tryz.prog.funcs[13]? = some fn ∧ (fn.name == "runtime.NumGoroutine") = false ∧ fn.body.isNone = false := ⟨Tryz.f13, rsorted_f, rsorted_n, rsorted_b⟩
theorem rsorted_hO : OracleOk E rsorted_O := orac_ok .nil .nil .nil .nil
theorem rsorted_s0 {res : List (TV E)} {v0 : List (List UInt8)} {v1 : Nat} {v2 : List (List UInt8)} (h : rsorted_t0 (Gr E Tryz.f13 res) v0 v1 v2 = some res) : Ev E Tryz.f13 res 0 (rsorted_C0 v0 v1 v2) := Ev.step rsorted_hO mix ((rsorted_l0 _ v0 v1 v2).trans h)
theorem rsorted_s1 {res : List (TV E)} {v0 : List (List UInt8)} {v1 : Nat} {v2 v3 : Int} {v4 : List (List UInt8)} (h : rsorted_t1 (Gr E Tryz.f13 res) v0 v1 v2 v3 v4 = some res) : Ev E Tryz.f13 res 1 (rsorted_C1 v0 v1 v2 v3 v4) := Ev.step rsorted_hO mix ((rsorted_l1 _ v0 v1 v2 v3 v4).trans h)
theorem rsorted_ok_of (h : ∀ (x0 : List (List UInt8)), ln6 x0 = true → rsorted_t (Gr E Tryz.f13 [⟨.l_str, Pl.sortD x0⟩]) x0 = some [⟨.l_str, Pl.sortD x0⟩]) : FnOk E rsorted_id rsorted_W := fn1_ok rsorted_hO mix rsorted_f rsorted_n rsorted_b (fun x0 hk => (rsorted_e _ x0).trans (h x0 hk))
theorem rsorted_1 (l out : List (List UInt8)) (hl : l.length ≤ 1000000) (hp : Pre l out) (hn : out.length + lack l out ≤ l.length)
    (ih : ∀ z, Pre l (out ++ [z]) → (out ++ [z]).length + lack l (out ++ [z]) ≤ l.length → lack l (out ++ [z]) < lack l out → Ev E Tryz.f13 [⟨.l_str, Pl.sortD l⟩] 0 (rsorted_C0 l (out ++ [z]).length (out ++ [z]))) :
    ∀ (m i : Nat) (b : Int), l.length - i = m → i ≤ l.length → Best l out i b → Ev E Tryz.f13 [⟨.l_str, Pl.sortD l⟩] 1 (rsorted_C1 l out.length b i out) := by
  have ho : out.length ≤ 1000000 := by omega
  intro m
  induction m with
  | zero =>
    intro i b h1 h2 hb
    have e : i = l.length := by omega
    subst e
    refine rsorted_s1 ?_
    simp only [rsorted_t1, dge (Nat.le_refl l.length), cond_false]
    rcases hb with ⟨rfl, hb⟩ | ⟨j, z, hj, rfl, hz, hzo, hmin⟩
    · rw [dT (by decide), cond_true, Pl.sortD_eq hp.ss fun x => ⟨hp.sub x, fun hx => ?_⟩]
      obtain ⟨k, hk, rfl⟩ := List.mem_iff_getElem.1 hx
      exact hb k _ hk (List.getElem?_eq_getElem hk)
    · have hzl : l[j] = z := by rw [List.getElem?_eq_getElem hj] at hz; exact Option.some.inj hz
      rw [dF (by omega), cond_false, d0, dlt hj, gd l _ j hj, hzl]
      simp only [Bool.and_self, cond_true]
      rw [dT (show (out.length + [z].length) * 16 ≤ maxBytes by rw [mb, List.length_singleton]; omega), cond_true]
      have hmem : z ∈ l := by rw [← hzl]; exact List.getElem_mem hj
      have hlk := (lack_step out z hzo l).2 hmem
      have hpre : Pre l (out ++ [z]) := {
        ss := by
          unfold Pl.SS
          rw [List.pairwise_append]
          exact ⟨hp.ss, List.pairwise_singleton _ _, fun x hx y hy => by
            have : y = z := by simpa using hy
            subst this
            exact hp.low y hmem hzo x hx⟩
        sub := fun x hx => by
          rcases List.mem_append.1 hx with hx | hx
          · exact hp.sub x hx
          · have : x = z := by simpa using hx
            subst this; exact hmem
        low := fun y hy hyo x hx => by
          have hyo' : y ∉ out := fun h => hyo (List.mem_append_left _ h)
          have hyz : y ≠ z := fun h => hyo (by rw [h]; simp)
          rcases List.mem_append.1 hx with hx | hx
          · exact hp.low y hy hyo' x hx
          · have : x = z := by simpa using hx
            subst this
            obtain ⟨k, hk, rfl⟩ := List.mem_iff_getElem.1 hy
            exact Pl.s_lt_of_le_ne (hmin k _ hk (List.getElem?_eq_getElem hk) hyo') (fun h => hyz h.symm) }
      have := Gr_of (ih z hpre (by rw [List.length_append, List.length_singleton]; omega) (by omega))
      rw [List.length_append] at this
      exact this
  | succ m ihm =>
    intro i b h1 h2 hb
    have hi : i < l.length := by omega
    have hgi := List.getElem?_eq_getElem hi
    refine rsorted_s1 ?_
    have hlast := hp.last (List.getElem_mem hi)
    have e3 : w64 ((i : Int) + 1) = ((i + 1 : Nat) : Int) := by rw [w64_id (by omega) (by omega)]; omega
    simp only [rsorted_t1, dlt hi, d0, gd l _ i hi, cExpr out _ ho, okLast out ho, e3, Bool.and_self, Bool.true_or, cond_true]
    cases hc : lastLt out l[i] with
    | false =>
      have hin : l[i] ∈ out := Decidable.byContradiction fun h => by rw [hlast.2 h] at hc; cases hc
      simp only [Bool.false_and, Bool.not_false, Bool.or_true, cond_true, cond_false]
      refine Gr_of (ihm (i + 1) b (by omega) (by omega) ?_)
      rcases hb with ⟨rfl, hb⟩ | ⟨j, z, hj, rfl, hz, hzo, hmin⟩
      · refine .inl ⟨rfl, fun k x hk hx => ?_⟩
        by_cases hki : k = i
        · subst hki; rw [hgi] at hx; cases hx; exact hin
        · exact hb k x (by omega) hx
      · refine .inr ⟨j, z, by omega, rfl, hz, hzo, fun k x hk hx hxo => ?_⟩
        by_cases hki : k = i
        · subst hki; rw [hgi] at hx; cases hx; exact absurd hin hxo
        · exact hmin k x (by omega) hx hxo
    | true =>
      have hno : l[i] ∉ out := hlast.1 hc
      rcases hb with ⟨rfl, hb⟩ | ⟨j, z, hj, rfl, hz, hzo, hmin⟩
      · have hd : decide ((-1 : Int) < 0) = true := by decide
        simp only [hd, Bool.not_true, Bool.and_false, Bool.not_false, Bool.or_true, cond_true]
        refine Gr_of (ihm (i + 1) (i : Int) (by omega) (by omega) (.inr ⟨i, l[i], by omega, rfl, hgi, hno, fun k x hk hx hxo => ?_⟩))
        by_cases hki : k = i
        · subst hki; rw [hgi] at hx; cases hx; exact Pl.s_le_iff.2 (Pl.s_irrefl _)
        · exact absurd (hb k x (by omega) hx) hxo
      · have hjl : j < l.length := by omega
        have hzl : l[j] = z := by rw [List.getElem?_eq_getElem hjl] at hz; exact Option.some.inj hz
        have hd : decide ((j : Int) < 0) = false := dF (by omega)
        simp only [hd, d0, dlt hjl, gd l _ j hjl, hzl, Bool.not_false, Bool.and_self, Bool.true_or, cond_true, cond_false, Go.Proofs.bytesLess_eq]
        by_cases hlt : l[i] < z
        · rw [dT hlt, cond_true]
          refine Gr_of (ihm (i + 1) (i : Int) (by omega) (by omega) (.inr ⟨i, l[i], by omega, rfl, hgi, hno, fun k x hk hx hxo => ?_⟩))
          by_cases hki : k = i
          · subst hki; rw [hgi] at hx; cases hx; exact Pl.s_le_iff.2 (Pl.s_irrefl _)
          · exact Pl.s_le_trans (Pl.s_le_iff.2 (Pl.s_asymm hlt)) (hmin k x (by omega) hx hxo)
        · rw [dF hlt, cond_false]
          refine Gr_of (ihm (i + 1) (j : Int) (by omega) (by omega) (.inr ⟨j, z, by omega, rfl, hz, hzo, fun k x hk hx hxo => ?_⟩))
          by_cases hki : k = i
          · subst hki; rw [hgi] at hx; cases hx; exact Pl.s_le_iff.2 hlt
          · exact hmin k x (by omega) hx hxo
theorem rsorted_0 (l : List (List UInt8)) (hl : l.length ≤ 1000000) : ∀ (m : Nat) (out : List (List UInt8)), lack l out = m → Pre l out → out.length + lack l out ≤ l.length → Ev E Tryz.f13 [⟨.l_str, Pl.sortD l⟩] 0 (rsorted_C0 l out.length out) := by
  intro m
  induction m using Nat.strongRecOn with
  | ind m ih =>
    intro out hm hp hn
    refine rsorted_s0 ?_
    simp only [rsorted_t0]
    exact Gr_of (rsorted_1 l out hl hp hn (fun z h1 h2 h3 => ih (lack l (out ++ [z])) (by omega) (out ++ [z]) rfl h1 h2) l.length 0 (-1) (by omega) (by omega) (.inl ⟨rfl, fun k x hk => by omega⟩))
theorem rsorted_ok : FnOk E rsorted_id rsorted_W := rsorted_ok_of fun l hk => by
  have hl := ln6_iff.1 hk
  have hlack : lack l [] ≤ l.length := List.countP_le_length
  exact Gr_of (rsorted_0 l hl _ [] rfl ⟨List.Pairwise.nil, fun x h => (by cases h), fun y _ _ x h => (by cases h)⟩ (by rw [List.length_nil]; omega))
noncomputable def rsame_W : FnW E := fn2 (E := E) .l_str .l_str .bool (fun a _ => ln6 a) equal
def rsame_id : FuncId := 43
noncomputable def rsame_O : Oracle E := orac [] [] [] []
noncomputable def rsame_H : Hint E := Hint.mk [(0, [0, 1, 5])] [] [] [] []
noncomputable def rsame_C0 (v0 : List (List UInt8)) (v1 : List (List UInt8)) (v2 : Int) : ASt E := ASt.mk 26 [(0, .d (.slice .str v0)), (1, .d (.slice .str v1)), (5, .d (.int .i64 v2))] [] 0
noncomputable def rsame_t (G : Nat → ASt E → Option (List (TV E))) (x0 : List (List UInt8)) (x1 : List (List UInt8)) : Option (List (TV E)) :=
  bif ((x0.length : Int) != (x1.length : Int)) then some [⟨.bool, false⟩] else G 0 (rsame_C0 x0 x1 (0 : Int))
theorem rsame_e (G : Nat → ASt E → Option (List (TV E))) (x0 : List (List UInt8)) (x1 : List (List UInt8)) : runE rsame_O rsame_H G Tryz.f43 [⟨.l_str, x0⟩, ⟨.l_str, x1⟩] = rsame_t G x0 x1 := by kernel_rfl
noncomputable def rsame_t0 (G : Nat → ASt E → Option (List (TV E))) (v0 : List (List UInt8)) (v1 : List (List UInt8)) (v2 : Int) : Option (List (TV E)) :=
  bif (decide (v2 < (v0.length : Int))) then (bif (decide ((0 : Int) ≤ v2) && decide (v2 < (v0.length : Int))) then (bif (decide ((0 : Int) ≤ v2) && decide (v2 < (v1.length : Int))) then (bif (!((List.getD v0 (Int.toNat v2) (dflt .str)) == (List.getD v1 (Int.toNat v2) (dflt .str)))) then some [⟨.bool, false⟩] else G 0 (rsame_C0 v0 v1 (w64 (v2 + (1 : Int))))) else none) else none) else some [⟨.bool, true⟩]
theorem rsame_l0 (G : Nat → ASt E → Option (List (TV E))) (v0 : List (List UInt8)) (v1 : List (List UInt8)) (v2 : Int) : runL rsame_O rsame_H G Tryz.f43 0 (rsame_C0 v0 v1 v2) = rsame_t0 G v0 v1 v2 := by kernel_rfl
theorem rsame_f : Tryz.prog.funcs[43]? = some Tryz.f43 := by kernel_rfl
theorem rsame_n : (Tryz.f43.name == "runtime.NumGoroutine") = false := by kernel_rfl
theorem rsame_b : Tryz.f43.body.isNone = false := by kernel_rfl
theorem rsame_ex : ∃ fn, Tryz.prog.funcs[43]? = some fn ∧ (fn.name == "runtime.NumGoroutine") = false ∧ fn.body.isNone = false := ⟨Tryz.f43, rsame_f, rsame_n, rsame_b⟩
theorem rsame_hO : OracleOk E rsame_O := orac_ok .nil .nil .nil .nil
theorem rsame_s0 {res : List (TV E)} {v0 : List (List UInt8)} {v1 : List (List UInt8)} {v2 : Int} (h : rsame_t0 (Gr E Tryz.f43 res) v0 v1 v2 = some res) : Ev E Tryz.f43 res 0 (rsame_C0 v0 v1 v2) := Ev.step rsame_hO mix ((rsame_l0 _ v0 v1 v2).trans h)
theorem rsame_ok_of (h : ∀ (x0 : List (List UInt8)) (x1 : List (List UInt8)), (fun a _ => ln6 a) x0 x1 = true → rsame_t (Gr E Tryz.f43 [⟨.bool, equal x0 x1⟩]) x0 x1 = some [⟨.bool, equal x0 x1⟩]) : FnOk E rsame_id rsame_W := fn2_ok rsame_hO mix rsame_f rsame_n rsame_b (fun x0 x1 hk => (rsame_e _ x0 x1).trans (h x0 x1 hk))
theorem rsame_loop (a b : List (List UInt8)) (ha : a.length ≤ 1000000) (hab : a.length = b.length) : ∀ (m i : Nat), a.length - i = m → i ≤ a.length → Ev E Tryz.f43 [⟨.bool, a.drop i == b.drop i⟩] 0 (rsame_C0 a b i) := by
  intro m
  induction m with
  | zero =>
    intro i h1 h2
    refine rsame_s0 ?_
    simp only [rsame_t0, dge (show a.length ≤ i by omega), cond_false, List.drop_eq_nil_of_le (show a.length ≤ i by omega), List.drop_eq_nil_of_le (show b.length ≤ i by omega)]
    rfl
  | succ m ih =>
    intro i h1 h2
    have hi : i < a.length := by omega
    have hj : i < b.length := by omega
    refine rsame_s0 ?_
    simp only [rsame_t0, dlt hi, dlt hj, d0, gd a _ i hi, gd b _ i hj, Bool.and_self, cond_true]
    rw [← List.getElem_cons_drop hi, ← List.getElem_cons_drop hj, w64_id (by omega) (by omega)]
    by_cases hs : a[i] = b[i]
    · have e : (a[i] :: a.drop (i + 1) == b[i] :: b.drop (i + 1)) = (a.drop (i + 1) == b.drop (i + 1)) := by rw [List.cons_beq_cons]; simp [hs]
      rw [e, show (a[i] == b[i]) = true from by simpa using hs]
      exact Gr_of (ih (i + 1) (by omega) (by omega))
    · have e : (a[i] :: a.drop (i + 1) == b[i] :: b.drop (i + 1)) = false := by rw [List.cons_beq_cons]; simp [hs]
      rw [e, show (a[i] == b[i]) = false from by simpa using hs]
      rfl
theorem rsame_ok : FnOk E rsame_id rsame_W := rsame_ok_of fun a b hk => by
  simp only [rsame_t]
  by_cases h : a.length = b.length
  · rw [neF (by omega), cond_false]
    have := rsame_loop a b (ln6_iff.1 hk) h a.length 0 (by omega) (by omega)
    rw [List.drop_zero, List.drop_zero] at this
    exact Gr_of this
  · rw [neT (by omega), cond_true]
    have : equal a b = false := by simp only [equal, beq_eq_false_iff_ne]; exact fun e => h (by rw [e])
    rw [this]
end Go.Proofs.YtfoflgciceckoaaGreatDoor.Rf