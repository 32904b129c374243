/- The reference's fields of one text, and commands. -/
import Derived.Test.YtfoflgciceckoaaGreatDoorT8
namespace Go.Proofs.YtfoflgciceckoaaGreatDoor.Rf
open Go Go.RowKit Go.Sort Go.Proofs.YtfoflgciceckoaaGreatDoor.Mir
/-! ### The reference's fields of one text, and commands (18), exactly -/
noncomputable def q18words_W : FnW E := fn12 (E := E) .api_Node .api_Node .bool okWd wdV wdB
def q18words_id : FuncId := 35
noncomputable def q18words_O : Oracle E := orac [(89, rwsplit_W), (85, r18text_W), (88, q18texts_W)] [] [] []
noncomputable def q18words_H : Hint E := Hint.mk [(0, [2, 4, 8, 9])] [] [(0, [(8, some 3, true, .api_Node)])] [] []
noncomputable def q18words_C0 (v0 : List (List UInt8)) (v1 v2 : Int) (v3 : List UInt8) (v4 : Int) (v5 : List UInt8) (v6 : List Node) : ASt E := ASt.mk 48 [(2, .ptr 0 0), (4, .d (.slice .str v0)), (8, .ptr 1 0), (9, .d (.int .i64 v1))] [(0, .box [.d (.int .i64 v2), .d (.str v3), .d (.raw (.slice none 0 0)), .d (.raw (.slice none 0 0))]), (1, .box [.d (.int .i64 v4), .d (.str v5), .d (.raw (.slice none 0 0)), .grow .api_Node v6 2]), (2, .tail true)] 3
noncomputable def q18words_t (G : Nat → ASt E → Option (List (TV E))) (x0 : Node) : Option (List (TV E)) :=
  bif (x0.kind == (1 : Int)) then (bif (okL1 x0.text) then (bif (!((splE x0.text) == (0 : Int))) then some [⟨.api_Node, (⟨(0 : Int), ([] : List UInt8), ([] : List (List UInt8)), ([] : List Node)⟩ : Node)⟩, ⟨.bool, false⟩] else G 0 (q18words_C0 (splV x0.text) (0 : Int) (0 : Int) ([] : List UInt8) (2 : Int) ([] : List UInt8) ([] : List Node))) else none) else (bif (!(rtxB (⟨x0.kind, x0.text, x0.keys, x0.kids⟩ : Node))) then some [⟨.api_Node, (⟨(0 : Int), ([] : List UInt8), ([] : List (List UInt8)), ([] : List Node)⟩ : Node)⟩, ⟨.bool, false⟩] else G 0 (q18words_C0 (rtxL (⟨x0.kind, x0.text, x0.keys, x0.kids⟩ : Node)) (0 : Int) (0 : Int) ([] : List UInt8) (2 : Int) ([] : List UInt8) ([] : List Node)))
theorem q18words_e (G : Nat → ASt E → Option (List (TV E))) (x0 : Node) : runE q18words_O q18words_H G Tryz.f35 [⟨.api_Node, x0⟩] = q18words_t G x0 := by kernel_rfl
noncomputable def q18words_t0 (G : Nat → ASt E → Option (List (TV E))) (v0 : List (List UInt8)) (v1 v2 : Int) (v3 : List UInt8) (v4 : Int) (v5 : List UInt8) (v6 : List Node) : Option (List (TV E)) :=
  bif (decide (v1 < (v0.length : Int))) then (bif (decide ((0 : Int) ≤ v1) && decide (v1 < (v0.length : Int))) then (bif (decide ((v6.length + ([(txtN (List.getD v0 (Int.toNat v1) (dflt .str)))] : List Node).length) * 72 ≤ maxBytes)) then G 0 (q18words_C0 v0 (w64 (v1 + (1 : Int))) v2 v3 v4 v5 (v6 ++ ([(txtN (List.getD v0 (Int.toNat v1) (dflt .str)))] : List Node))) else none) else none) else some [⟨.api_Node, (⟨v4, v5, ([] : List (List UInt8)), v6⟩ : Node)⟩, ⟨.bool, true⟩]
theorem q18words_l0 (G : Nat → ASt E → Option (List (TV E))) (v0 : List (List UInt8)) (v1 v2 : Int) (v3 : List UInt8) (v4 : Int) (v5 : List UInt8) (v6 : List Node) : runL q18words_O q18words_H G Tryz.f35 0 (q18words_C0 v0 v1 v2 v3 v4 v5 v6) = q18words_t0 G v0 v1 v2 v3 v4 v5 v6 := by kernel_rfl
theorem q18words_f : Tryz.prog.funcs[35]? = some Tryz.f35 := by kernel_rfl
theorem q18words_n : (Tryz.f35.name == "runtime.NumGoroutine") = false := by kernel_rfl
theorem q18words_b : Tryz.f35.body.isNone = false := by kernel_rfl
theorem q18words_ex : ∃ fn, Tryz.prog.funcs[35]? = some fn ∧ (fn.name == "runtime.NumGoroutine") = false ∧ fn.body.isNone = false := ⟨Tryz.f35, q18words_f, q18words_n, q18words_b⟩
theorem q18words_hO : OracleOk E q18words_O := orac_ok (.cons rwsplit_ok (.cons r18text_ok (.cons q18texts_ok .nil))) .nil .nil .nil
theorem q18words_s0 {res : List (TV E)} {v0 : List (List UInt8)} {v1 v2 : Int} {v3 : List UInt8} {v4 : Int} {v5 : List UInt8} {v6 : List Node} (h : q18words_t0 (Gr E Tryz.f35 res) v0 v1 v2 v3 v4 v5 v6 = some res) : Ev E Tryz.f35 res 0 (q18words_C0 v0 v1 v2 v3 v4 v5 v6) := Ev.step q18words_hO mix ((q18words_l0 _ v0 v1 v2 v3 v4 v5 v6).trans h)
theorem q18words_ok_of (h : ∀ (x0 : Node), okWd x0 = true → q18words_t (Gr E Tryz.f35 [⟨.api_Node, wdV x0⟩, ⟨.bool, wdB x0⟩]) x0 = some [⟨.api_Node, wdV x0⟩, ⟨.bool, wdB x0⟩]) : FnOk E q18words_id q18words_W := fn12_ok q18words_hO mix q18words_f q18words_n q18words_b (fun x0 hk => (q18words_e _ x0).trans (h x0 hk))
theorem q18words_0 (l : List (List UInt8)) (hl : l.length ≤ 1000000) (a : Int) (b : List UInt8) : ∀ (m i : Nat) (out : List Node), l.length - i = m → i ≤ l.length → out.length = i →
    Ev E Tryz.f35 [⟨.api_Node, (⟨2, [], [], out ++ (l.drop i).map txtN⟩ : Node)⟩, ⟨.bool, true⟩] 0 (q18words_C0 l i a b 2 [] out) := by
  intro m
  induction m with
  | zero =>
    intro i out h1 h2 h3
    refine q18words_s0 ?_
    simp only [q18words_t0, dge (show l.length ≤ i by omega), cond_false, List.drop_eq_nil_of_le (show l.length ≤ i by omega), List.map_nil, List.append_nil]
  | succ m ih =>
    intro i out h1 h2 h3
    have hi : i < l.length := by omega
    have e1 : w64 ((i : Int) + 1) = ((i + 1 : Nat) : Int) := by rw [w64_id (by omega) (by omega)]; omega
    refine q18words_s0 ?_
    simp only [q18words_t0, dlt hi, d0, Bool.and_self, cond_true, e1, gd l _ i hi]
    rw [mbT (show (out.length + [txtN l[i]].length) * 72 ≤ 140737488355328 by rw [List.length_singleton]; omega), cond_true]
    have := Gr_of (ih (i + 1) (out ++ [txtN l[i]]) (by omega) (by omega) (by rw [List.length_append, List.length_singleton]; omega))
    rw [List.append_assoc] at this
    rw [← List.getElem_cons_drop hi]
    exact this
theorem q18words_ok : FnOk E q18words_id q18words_W := q18words_ok_of fun n hk => by
  simp only [okWd, Bool.and_eq_true, decide_eq_true_eq] at hk
  have o2 : okL1 n.text = true := okL1_iff.2 hk.1
  have fin : ∀ l : List (List UInt8), l.length ≤ 1000000 → Gr E Tryz.f35 [⟨.api_Node, rowN l⟩, ⟨.bool, true⟩] 0 (q18words_C0 l 0 0 [] 2 [] []) = some [⟨.api_Node, rowN l⟩, ⟨.bool, true⟩] := fun l hl => Gr_of (q18words_0 l hl 0 [] _ 0 [] rfl (Nat.zero_le _) rfl)
  simp only [q18words_t, node_eta, o2, cond_true, rtxB_eq]
  unfold wdV wdB wdL
  cases n.kind == 1 with
  | true =>
    simp only [cond_true]
    cases splE n.text == 0 with
    | false => rfl
    | true => exact fin _ (Nat.le_trans (finV_len _) (by decide))
  | false =>
    simp only [cond_false]
    cases ht : txsB n with
    | false => rfl
    | true =>
      rw [rtxL_eq ht]
      exact fin _ (Nat.le_trans (txsL_len n) hk.2)
noncomputable def q18again_W : FnW E := fn1 (E := E) .str .bool okL1 restB
def q18again_id : FuncId := 82
noncomputable def q18again_O : Oracle E := orac [(87, rcount_W)] [] [] []
noncomputable def q18again_H : Hint E := Hint.mk [] [] [] [] []
noncomputable def q18again_t (_G : Nat → ASt E → Option (List (TV E))) (x0 : List UInt8) : Option (List (TV E)) :=
  bif ((decide ((0 : Int) ≤ (0 : Int)) && decide ((0 : Int) ≤ (11 : Int)) && decide ((11 : Int) ≤ (x0.length : Int))) || !(decide ((11 : Int) < (x0.length : Int)))) then (bif (bif (decide ((11 : Int) < (x0.length : Int))) then ((List.take (Int.toNat (11 : Int) - Int.toNat (0 : Int)) (List.drop (Int.toNat (0 : Int)) x0)) == ([111, 110, 45, 102, 97, 105, 108, 117, 114, 101, 58] : List UInt8)) else false) then (bif (decide ((0 : Int) ≤ (11 : Int)) && decide ((11 : Int) ≤ (x0.length : Int)) && decide ((x0.length : Int) ≤ (x0.length : Int))) then (bif (okW (List.take (Int.toNat (x0.length : Int) - Int.toNat (11 : Int)) (List.drop (Int.toNat (11 : Int)) x0)) (10 : Int)) then some [⟨.bool, (bif ((cntE (List.take (Int.toNat (x0.length : Int) - Int.toNat (11 : Int)) (List.drop (Int.toNat (11 : Int)) x0)) (10 : Int)) == (0 : Int)) then (decide ((0 : Int) < (cntV (List.take (Int.toNat (x0.length : Int) - Int.toNat (11 : Int)) (List.drop (Int.toNat (11 : Int)) x0)) (10 : Int)))) else false)⟩] else none) else none) else some [⟨.bool, (bif (bif (bif (x0 == ([110, 111] : List UInt8)) then true else (x0 == ([97, 108, 119, 97, 121, 115] : List UInt8))) then true else (x0 == ([117, 110, 108, 101, 115, 115, 45, 115, 116, 111, 112, 112, 101, 100] : List UInt8))) then true else (x0 == ([111, 110, 45, 102, 97, 105, 108, 117, 114, 101] : List UInt8)))⟩]) else none
theorem q18again_e (G : Nat → ASt E → Option (List (TV E))) (x0 : List UInt8) : runE q18again_O q18again_H G Tryz.f82 [⟨.str, x0⟩] = q18again_t G x0 := by kernel_rfl
theorem q18again_f : Tryz.prog.funcs[82]? = some Tryz.f82 := by kernel_rfl
theorem q18again_n : (Tryz.f82.name == "runtime.NumGoroutine") = false := by kernel_rfl
theorem q18again_b : Tryz.f82.body.isNone = false := by kernel_rfl
theorem q18again_ex : ∃ fn, Tryz.prog.funcs[82]? = some fn ∧ (fn.name == "runtime.NumGoroutine") = false ∧ fn.body.isNone = false := ⟨Tryz.f82, q18again_f, q18again_n, q18again_b⟩
theorem q18again_hO : OracleOk E q18again_O := orac_ok (.cons rcount_ok .nil) .nil .nil .nil
theorem q18again_ok_of (h : ∀ (x0 : List UInt8), okL1 x0 = true → q18again_t (Gr E Tryz.f82 [⟨.bool, restB x0⟩]) x0 = some [⟨.bool, restB x0⟩]) : FnOk E q18again_id q18again_W := fn1_ok q18again_hO mix q18again_f q18again_n q18again_b (fun x0 hk => (q18again_e _ x0).trans (h x0 hk))
theorem q18again_ok : FnOk E q18again_id q18again_W := q18again_ok_of fun s hk => by
  have hs := okL1_iff.1 hk
  have e11 : Int.toNat (11 : Int) = 11 := rfl
  have e0 : Int.toNat (0 : Int) = 0 := rfl
  have ed : List.take (s.length - 11) (List.drop 11 s) = s.drop 11 := List.take_of_length_le (by rw [List.length_drop]; exact Nat.le_refl _)
  have ok : okW (s.drop 11) 10 = true := okW_iff.2 ⟨⟨by rw [List.length_drop]; omega, by decide⟩, by decide⟩
  simp only [q18again_t, e11, e0, List.drop_zero, Nat.sub_zero, Int.toNat_natCast, ed, ok]
  unfold restB
  rw [countE_eq _ (by decide), countV_eq _ (by decide)]
  by_cases h : (11 : Int) < (s.length : Int)
  · rw [dT h, dT (show (11 : Int) ≤ (s.length : Int) by omega), dlr]
    change (bif (s.take 11 == onfS) then _ else _) = _
    simp only [cond_true]
    cases s.take 11 == onfS <;> rfl
  · rw [dF h]
    by_cases h2 : (11 : Int) ≤ (s.length : Int)
    · have hl : s.length = 11 := by omega
      rw [dT h2, List.drop_eq_nil_of_le (by omega), List.take_of_length_le (by omega)]
      simp only [cond_true]
      cases hq : s == onfS with
      | false => rfl
      | true =>
        have : s = onfS := by simpa using hq
        subst this
        rfl
    · rw [dF h2]; rfl
def oneB (n : Node) (k : Int) : Bool := !(bif k == 0 then txX restB n else bif k == 1 then txX cpu1B n else bif k == 2 then byX n else bif k == 3 then txX cnt1B n else txX line1B n)
def oneV (n : Node) (k : Int) : Node := bif oneB n k then (bif k == 2 then txtN (ztV (zpV n.text)) else n) else zn
def okOn (n : Node) (_ : Int) : Bool := decide (n.text.length ≤ 1000000)
theorem zp_ge (s : List UInt8) : 0 ≤ zpV s := by
  unfold zpV zpP
  cases zuB (s.drop (lsD s)) with
  | false => exact Int.le_refl _
  | true =>
    obtain ⟨u0, u3⟩ := zu_bd (s.drop (lsD s))
    have hb : ∀ P : Int, 1 ≤ P → 0 ≤ (cntP (s.take (lsD s)) (1125899906842624 / P)).1 * P := fun P h => Int.mul_nonneg (cnt_bd _ _ (Int.ediv_nonneg (by decide) (by omega))).1 (by omega)
    exact hb _ (by rcases p2_of u0 u3 with ⟨_, h⟩ | ⟨_, h⟩ | ⟨_, h⟩ | ⟨_, h⟩ <;> rw [h] <;> decide)
noncomputable def q18one_W : FnW E := fn22 (E := E) .api_Node .int .api_Node .bool okOn oneV oneB
def q18one_id : FuncId := 34
noncomputable def q18one_O : Oracle E := orac [(87, rcount_W), (83, rmil_W), (84, rzparse_W), (86, rztext_W), (82, q18again_W), (85, r18text_W)] [] [] []
noncomputable def q18one_H : Hint E := Hint.mk [] [] [] [] []
noncomputable def q18one_t (_G : Nat → ASt E → Option (List (TV E))) (x0 : Node) (x1 : Int) : Option (List (TV E)) :=
  bif (x0.kind != (1 : Int)) then some [⟨.api_Node, (⟨(0 : Int), ([] : List UInt8), ([] : List (List UInt8)), ([] : List Node)⟩ : Node)⟩, ⟨.bool, false⟩] else (bif (x1 == (0 : Int)) then (bif (okL1 x0.text) then (bif (!(restB x0.text)) then some [⟨.api_Node, (⟨(0 : Int), ([] : List UInt8), ([] : List (List UInt8)), ([] : List Node)⟩ : Node)⟩, ⟨.bool, false⟩] else some [⟨.api_Node, (⟨x0.kind, x0.text, x0.keys, x0.kids⟩ : Node)⟩, ⟨.bool, true⟩]) else none) else (bif (x1 == (1 : Int)) then (bif (okL1 x0.text) then (bif (!(bif ((milE x0.text) == (0 : Int)) then (decide ((0 : Int) < (milV x0.text))) else false)) then some [⟨.api_Node, (⟨(0 : Int), ([] : List UInt8), ([] : List (List UInt8)), ([] : List Node)⟩ : Node)⟩, ⟨.bool, false⟩] else some [⟨.api_Node, (⟨x0.kind, x0.text, x0.keys, x0.kids⟩ : Node)⟩, ⟨.bool, true⟩]) else none) else (bif (x1 == (2 : Int)) then (bif (okL1 x0.text) then (bif (!(bif ((rzE x0.text) == (0 : Int)) then (decide ((0 : Int) < (rzV x0.text))) else false)) then some [⟨.api_Node, (⟨(0 : Int), ([] : List UInt8), ([] : List (List UInt8)), ([] : List Node)⟩ : Node)⟩, ⟨.bool, false⟩] else some [⟨.api_Node, (⟨(txtN (ztV (rzV x0.text))).kind, (txtN (ztV (rzV x0.text))).text, (txtN (ztV (rzV x0.text))).keys, (txtN (ztV (rzV x0.text))).kids⟩ : Node)⟩, ⟨.bool, true⟩]) else none) else (bif (x1 == (3 : Int)) then (bif (okW x0.text (8 : Int)) then (bif (!((cntE x0.text (8 : Int)) == (0 : Int))) then some [⟨.api_Node, (⟨(0 : Int), ([] : List UInt8), ([] : List (List UInt8)), ([] : List Node)⟩ : Node)⟩, ⟨.bool, false⟩] else some [⟨.api_Node, (⟨x0.kind, x0.text, x0.keys, x0.kids⟩ : Node)⟩, ⟨.bool, true⟩]) else none) else (bif (!(bif (decide ((1 : Int) ≤ (x0.text.length : Int))) then (decide ((x0.text.length : Int) ≤ (64 : Int))) else false)) then some [⟨.api_Node, (⟨(0 : Int), ([] : List UInt8), ([] : List (List UInt8)), ([] : List Node)⟩ : Node)⟩, ⟨.bool, false⟩] else some [⟨.api_Node, (⟨x0.kind, x0.text, x0.keys, x0.kids⟩ : Node)⟩, ⟨.bool, true⟩])))))
theorem q18one_e (G : Nat → ASt E → Option (List (TV E))) (x0 : Node) (x1 : Int) : runE q18one_O q18one_H G Tryz.f34 [⟨.api_Node, x0⟩, ⟨.int, x1⟩] = q18one_t G x0 x1 := by kernel_rfl
theorem q18one_f : Tryz.prog.funcs[34]? = some Tryz.f34 := by kernel_rfl
theorem q18one_n : (Tryz.f34.name == "runtime.NumGoroutine") = false := by kernel_rfl
theorem q18one_b : Tryz.f34.body.isNone = false := by kernel_rfl
theorem q18one_ex : ∃ fn, Tryz.prog.funcs[34]? = some fn ∧ (fn.name == "runtime.NumGoroutine") = false ∧ fn.body.isNone = false := ⟨Tryz.f34, q18one_f, q18one_n, q18one_b⟩
theorem q18one_hO : OracleOk E q18one_O := orac_ok (.cons rcount_ok (.cons rmil_ok (.cons rzparse_ok (.cons rztext_ok (.cons q18again_ok (.cons r18text_ok .nil)))))) .nil .nil .nil
theorem q18one_ok_of (h : ∀ (x0 : Node) (x1 : Int), okOn x0 x1 = true → q18one_t (Gr E Tryz.f34 [⟨.api_Node, oneV x0 x1⟩, ⟨.bool, oneB x0 x1⟩]) x0 x1 = some [⟨.api_Node, oneV x0 x1⟩, ⟨.bool, oneB x0 x1⟩]) : FnOk E q18one_id q18one_W := fn22_ok q18one_hO mix q18one_f q18one_n q18one_b (fun x0 x1 hk => (q18one_e _ x0 x1).trans (h x0 x1 hk))
theorem q18one_ok : FnOk E q18one_id q18one_W := q18one_ok_of fun n k hk => by
  have hs : n.text.length ≤ 1000000 := of_decide_eq_true hk
  have ok : okL1 n.text = true := okL1_iff.2 hs
  have okw : okW n.text 8 = true := okW_iff.2 ⟨⟨hs, by decide⟩, by decide⟩
  have e2 : (bif rzE n.text == 0 then decide ((0 : Int) < rzV n.text) else false) = !(bif zpE n.text != 0 then true else zpV n.text == 0) := by
    rw [zpE_eq, zpV_eq]
    have := zp_ge n.text
    rw [zpV_eq] at this
    by_cases h : rzE n.text = 0
    · rw [eqT h, neF h, cond_true, cond_false]
      by_cases h2 : rzV n.text = 0
      · rw [eqT h2, dF (by omega)]; rfl
      · rw [eqF h2, dT (by omega)]; rfl
    · rw [eqF h, neT h]; rfl
  have e4 : (bif decide ((1 : Int) ≤ (n.text.length : Int)) then decide ((n.text.length : Int) ≤ 64) else false) = line1B n.text := by
    unfold line1B
    cases n.text with
    | nil => rfl
    | cons c t => rw [dT (by simp only [List.length_cons]; omega)]; rfl
  simp only [q18one_t, node_eta, ok, okw, cond_true, e2, e4, ← countE_eq n.text (most := 8) (by decide)]
  unfold oneV oneB txX byX cpu1B cnt1B
  cases n.kind != 1 with
  | true => cases k == 0 <;> cases k == 1 <;> cases k == 2 <;> cases k == 3 <;> rfl
  | false =>
    simp only [cond_false]
    cases h0 : k == 0 with
    | true =>
      have h2 : (k == 2) = false := eqF (by have := eq_of_beq h0; omega)
      rw [h2]
      simp only [cond_true, cond_false, Bool.not_not]
      cases restB n.text <;> rfl
    | false =>
      cases h1 : k == 1 with
      | true =>
        have h2 : (k == 2) = false := eqF (by have := eq_of_beq h1; omega)
        rw [h2]
        simp only [cond_true, cond_false, Bool.not_not]
        cases (bif milE n.text == 0 then decide ((0 : Int) < milV n.text) else false) <;> rfl
      | false =>
        cases k == 2 with
        | true =>
          simp only [cond_true, cond_false, ← zpV_eq]
          cases (bif zpE n.text != 0 then true else zpV n.text == 0) <;> rfl
        | false =>
          simp only [cond_true, cond_false, Bool.not_not]
          cases k == 3 with
          | true => cases pwholeE n.text 8 == 0 <;> rfl
          | false => cases line1B n.text <;> rfl
end Go.Proofs.YtfoflgciceckoaaGreatDoor.Rf