/- The reference's fields (18), exactly: texts, variables and labels, sets. -/
import Derived.Test.YtpmknebhacaocaaGreatDoorN8
namespace Go.Proofs.YtpmknebhacaocaaGreatDoor.Rf
open Go Go.RowKit Go.Sort Go.Proofs.YtpmknebhacaocaaGreatDoor.Mir
/-! Keys and leaves -/
def keyB (s : List UInt8) (b : Bool) : Bool := bif b then nameV badV s else nameV badS s
noncomputable def r18key_W : FnW E := fn2 (E := E) .str .bool .bool (fun _ _ => true) keyB
def r18key_id : FuncId := 90
noncomputable def r18key_O : Oracle E := orac [(94, rservice_W), (139, rvariable_W)] [] [] []
noncomputable def r18key_H : Hint E := Hint.mk [] [] [] [] []
noncomputable def r18key_t (_G : Nat → ASt E → Option (List (TV E))) (x0 : List UInt8) (x1 : Bool) : Option (List (TV E)) :=
  bif x1 then some [⟨.bool, ((nameV badV) x0)⟩] else some [⟨.bool, ((nameV badS) x0)⟩]
theorem r18key_e (G : Nat → ASt E → Option (List (TV E))) (x0 : List UInt8) (x1 : Bool) : runE r18key_O r18key_H G Tryz.f90 [⟨.str, x0⟩, ⟨.bool, x1⟩] = r18key_t G x0 x1 := by kernel_rfl
theorem r18key_f : Tryz.prog.funcs[90]? = some Tryz.f90 := by kernel_rfl
theorem r18key_n : (Tryz.f90.name == "runtime.NumGoroutine") = false := by kernel_rfl
theorem r18key_b : Tryz.f90.body.isNone = false := by kernel_rfl
theorem r18key_ex : ∃ fn, Tryz.prog.funcs[90]? = some fn ∧ (fn.name == "runtime.NumGoroutine") = false ∧ fn.body.isNone = false := ⟨Tryz.f90, r18key_f, r18key_n, r18key_b⟩
theorem r18key_hO : OracleOk E r18key_O := orac_ok (.cons rservice_ok (.cons rvariable_ok .nil)) .nil .nil .nil
theorem r18key_ok_of (h : ∀ (x0 : List UInt8) (x1 : Bool), r18key_t (Gr E Tryz.f90 [⟨.bool, keyB x0 x1⟩]) x0 x1 = some [⟨.bool, keyB x0 x1⟩]) : FnOk E r18key_id r18key_W := fn2_ok r18key_hO mix r18key_f r18key_n r18key_b (fun x0 x1 _ => (r18key_e _ x0 x1).trans (h x0 x1))
theorem r18key_ok : FnOk E r18key_id r18key_W := r18key_ok_of fun s b => by cases b <;> rfl
theorem txtN_leaf (s k : List UInt8) : leafK k (txtN s) := by show (1 : Int) ≠ 3; decide
theorem zn_leaf (k : List UInt8) : leafK k (⟨0, [], [], []⟩ : Node) := by show (0 : Int) ≠ 3; decide
/-! ### The reference's texts, Pairs, Set (18), exactly -/
def rtxV : List Node → List (List UInt8)
  | [] => []
  | x :: t => bif x.kind != 1 then [] else x.text :: rtxV t
def rtx0 (n : Node) : Bool := bif n.kind != 2 then true else decide ((32 : Int) < (n.kids.length : Int))
def rtxL (n : Node) : List (List UInt8) := bif rtx0 n then [] else rtxV n.kids
def rtxB (n : Node) : Bool := bif rtx0 n then false else (txsV n.kids).isSome
noncomputable def q18texts_W : FnW E := fn12 (E := E) .api_Node .l_str .bool (fun _ => true) rtxL rtxB
def q18texts_id : FuncId := 88
noncomputable def q18texts_O : Oracle E := orac [] [] [] []
noncomputable def q18texts_H : Hint E := Hint.mk [(0, [1, 4, 5])] [] [] [] []
noncomputable def q18texts_C0 (v0 : Nat) (v1 : Int) (v2 : Int) (v3 : List UInt8) (v4 : List (List UInt8)) (v5 : List Node) (v6 : List (List UInt8)) : ASt E := ASt.mk 42 [(1, .ptr 0 0), (4, .row .str v0 1), (5, .d (.int .i64 v1))] [(0, .box [.d (.int .i64 v2), .d (.str v3), .d (.slice .str v4), .d (.slice .api_Node v5)]), (1, .row .str v6)] 2
noncomputable def q18texts_t (G : Nat → ASt E → Option (List (TV E))) (x0 : Node) : Option (List (TV E)) :=
  bif (bif (x0.kind != (2 : Int)) then true else (decide ((32 : Int) < (x0.kids.length : Int)))) then some [⟨.l_str, ([] : List (List UInt8))⟩, ⟨.bool, false⟩] else G 0 (q18texts_C0 0 (0 : Int) x0.kind x0.text x0.keys x0.kids ([] : List (List UInt8)))
theorem q18texts_e (G : Nat → ASt E → Option (List (TV E))) (x0 : Node) : runE q18texts_O q18texts_H G Tryz.f88 [⟨.api_Node, x0⟩] = q18texts_t G x0 := by kernel_rfl
noncomputable def q18texts_t0 (G : Nat → ASt E → Option (List (TV E))) (_v0 : Nat) (v1 : Int) (v2 : Int) (v3 : List UInt8) (v4 : List (List UInt8)) (v5 : List Node) (v6 : List (List UInt8)) : Option (List (TV E)) :=
  bif (decide (v1 < (v5.length : Int))) then (bif (decide ((0 : Int) ≤ v1) && decide (v1 < (v5.length : Int))) then (bif ((List.getD v5 (Int.toNat v1) (dflt .api_Node)).kind != (1 : Int)) then some [⟨.l_str, v6⟩, ⟨.bool, false⟩] else (bif (decide ((0 : Int) ≤ v1) && decide (v1 < (v5.length : Int))) then (bif (decide ((v6.length + ([(List.getD v5 (Int.toNat v1) (dflt .api_Node)).text] : List (List UInt8)).length) * 16 ≤ maxBytes)) then G 0 (q18texts_C0 (v6.length + ([(List.getD v5 (Int.toNat v1) (dflt .api_Node)).text] : List (List UInt8)).length) (w64 (v1 + (1 : Int))) v2 v3 v4 v5 (v6 ++ ([(List.getD v5 (Int.toNat v1) (dflt .api_Node)).text] : List (List UInt8)))) else none) else none)) else none) else some [⟨.l_str, v6⟩, ⟨.bool, true⟩]
theorem q18texts_l0 (G : Nat → ASt E → Option (List (TV E))) (v0 : Nat) (v1 : Int) (v2 : Int) (v3 : List UInt8) (v4 : List (List UInt8)) (v5 : List Node) (v6 : List (List UInt8)) : runL q18texts_O q18texts_H G Tryz.f88 0 (q18texts_C0 v0 v1 v2 v3 v4 v5 v6) = q18texts_t0 G v0 v1 v2 v3 v4 v5 v6 := by kernel_rfl
theorem q18texts_f : Tryz.prog.funcs[88]? = some Tryz.f88 := by kernel_rfl
theorem q18texts_n : (Tryz.f88.name == "runtime.NumGoroutine") = false := by kernel_rfl
theorem q18texts_b : Tryz.f88.body.isNone = false := by kernel_rfl
theorem q18texts_ex : ∃ fn, Tryz.prog.funcs[88]? = some fn ∧ (fn.name == "runtime.NumGoroutine") = false ∧ fn.body.isNone = false := ⟨Tryz.f88, q18texts_f, q18texts_n, q18texts_b⟩
theorem q18texts_hO : OracleOk E q18texts_O := orac_ok .nil .nil .nil .nil
theorem q18texts_s0 {res : List (TV E)} {v0 : Nat} {v1 : Int} {v2 : Int} {v3 : List UInt8} {v4 : List (List UInt8)} {v5 : List Node} {v6 : List (List UInt8)} (h : q18texts_t0 (Gr E Tryz.f88 res) v0 v1 v2 v3 v4 v5 v6 = some res) : Ev E Tryz.f88 res 0 (q18texts_C0 v0 v1 v2 v3 v4 v5 v6) := Ev.step q18texts_hO mix ((q18texts_l0 _ v0 v1 v2 v3 v4 v5 v6).trans h)
theorem q18texts_ok_of (h : ∀ (x0 : Node), q18texts_t (Gr E Tryz.f88 [⟨.l_str, rtxL x0⟩, ⟨.bool, rtxB x0⟩]) x0 = some [⟨.l_str, rtxL x0⟩, ⟨.bool, rtxB x0⟩]) : FnOk E q18texts_id q18texts_W := fn12_ok q18texts_hO mix q18texts_f q18texts_n q18texts_b (fun x0 _ => (q18texts_e _ x0).trans (h x0))
theorem q18texts_0 (n : Node) (h32 : n.kids.length ≤ 32) (u : Int) (t : List UInt8) (ks : List (List UInt8)) : ∀ (m i v : Nat) (out : List (List UInt8)), n.kids.length - i = m → i ≤ n.kids.length → out.length = i →
    Ev E Tryz.f88 [⟨.l_str, out ++ rtxV (n.kids.drop i)⟩, ⟨.bool, (txsV (n.kids.drop i)).isSome⟩] 0 (q18texts_C0 v i u t ks n.kids out) := by
  intro m
  induction m with
  | zero =>
    intro i v out h1 h2 h3
    refine q18texts_s0 ?_
    simp only [q18texts_t0, dge (show n.kids.length ≤ i by omega), cond_false, List.drop_eq_nil_of_le (show n.kids.length ≤ i by omega), rtxV, txsV, List.append_nil, Option.isSome_some]
  | succ m ih =>
    intro i v out h1 h2 h3
    have hi : i < n.kids.length := by omega
    have e1 : w64 ((i : Int) + 1) = ((i + 1 : Nat) : Int) := by rw [w64_id (by omega) (by omega)]; omega
    refine q18texts_s0 ?_
    rw [← List.getElem_cons_drop hi]
    simp only [q18texts_t0, dlt hi, d0, Bool.and_self, cond_true, e1, gd n.kids _ i hi, rtxV, txsV]
    simp only [dT (show (out.length + [n.kids[i].text].length) * 16 ≤ maxBytes by rw [mb, List.length_singleton]; omega), cond_true]
    cases n.kids[i].kind != 1 with
    | true => simp only [cond_true, List.append_nil]; rfl
    | false =>
      have := Gr_of (ih (i + 1) (out.length + [n.kids[i].text].length) (out ++ [n.kids[i].text]) (by omega) (by omega) (by rw [List.length_append, List.length_singleton]; omega))
      simp only [cond_false, List.append_assoc, List.singleton_append, Option.isSome_map] at this ⊢
      exact this
theorem q18texts_ok : FnOk E q18texts_id q18texts_W := q18texts_ok_of fun n => by
  simp only [q18texts_t]
  unfold rtxL rtxB
  change (bif rtx0 n then _ else _) = _
  cases h0 : rtx0 n with
  | true => rfl
  | false =>
    have h32 : n.kids.length ≤ 32 := by
      unfold rtx0 at h0
      cases hk : n.kind != 2 with
      | true => rw [hk] at h0; cases h0
      | false => rw [hk, cond_false, decide_eq_false_iff_not] at h0; omega
    have := Gr_of (q18texts_0 n h32 n.kind n.text n.keys n.kids.length 0 0 [] rfl (Nat.zero_le _) rfl)
    rw [List.drop_zero, List.nil_append] at this
    exact this
/-! The fold of Pairs -/
def fi : List UInt8 → Nat
  | [] => 0
  | c :: t => bif ((c.toNat : Int) != 61) then fi t + 1 else 0
theorem fi_le : ∀ s : List UInt8, fi s ≤ s.length
  | [] => Nat.le_refl _
  | c :: t => by
    unfold fi
    cases ((c.toNat : Int) != 61) with
    | true => have := fi_le t; simp only [cond_true, List.length_cons]; omega
    | false => exact Nat.zero_le _
def rp0 (f : List UInt8 → Bool) : List (List UInt8) → Node → Option Node
  | [], o => some o
  | s :: t, o => bif (bif !(f (s.take (fi s))) then true else inV o.keys (s.take (fi s))) then none else rp0 f t (withV o (s.take (fi s)) (txtN (s.drop (fi s + 1))))
def rp1 (f : List UInt8 → Bool) : List (List UInt8) → List Node → Node → Option Node
  | s :: t, y :: r, o => bif (bif !(f s) then true else decide ((1 : Int) < y.kind)) then none else rp1 f t r (withV o s (txtN y.text))
  | _, _, o => some o
def rpP (n : Node) (vars : Bool) : Option Node := bif rtxB n then rp0 (fun s => keyB s vars) (rtxL n) zn else bif n.kind != 3 then none else rp1 (fun s => keyB s vars) n.keys n.kids zn
def oV (q : Option Node) : Node := q.elim zn fun o => doneV o true
def oB (q : Option Node) : Bool := q.elim false fun o => doneB o true
def rprV (n : Node) (vars : Bool) : Node := oV (rpP n vars)
def rprB (n : Node) (vars : Bool) : Bool := oB (rpP n vars)
def okRp (n : Node) (_ : Bool) : Bool := decide (n.kind = 3 → n.keys.length = n.kids.length) && decide (n.keys.length ≤ 1000) && decide (n.kids.length ≤ 1000) && n.kids.all (fun y => decide (y.text.length ≤ 1000))
abbrev oR (q : Option Node) : List (TV E) := [⟨.api_Node, oV q⟩, ⟨.bool, oB q⟩]
noncomputable def q18pairs_W : FnW E := fn22 (E := E) .api_Node .bool .api_Node .bool okRp rprV rprB
def q18pairs_id : FuncId := 36
noncomputable def q18pairs_O : Oracle E := orac [(91, rin_W), (92, rwith_W), (85, r18text_W), (93, r18done_W), (90, r18key_W), (88, q18texts_W)] [] [] []
noncomputable def q18pairs_H : Hint E := Hint.mk [(0, [1, 4, 6, 7, 9]), (1, [1, 4, 6, 7, 9, 10]), (2, [1, 2, 4, 6, 13])] [] [(0, [(6, some 2, false, .str), (6, some 3, false, .api_Node)]), (2, [(6, some 2, false, .str), (6, some 3, false, .api_Node)])] [] []
noncomputable def q18pairs_C0 (v0 : Bool) (v1 : List (List UInt8)) (v2 : Int) (v3 : Int) (v4 : List UInt8) (v5 : Int) (v6 : List UInt8) (v7 : List (List UInt8)) (v8 : List Node) : ASt E := ASt.mk 132 [(1, .d (.bool v0)), (4, .ptr 0 0), (6, .ptr 1 0), (7, .d (.slice .str v1)), (9, .d (.int .i64 v2))] [(0, .box [.d (.int .i64 v3), .d (.str v4), .d (.raw (.slice none 0 0)), .d (.raw (.slice none 0 0))]), (1, .box [.d (.int .i64 v5), .d (.str v6), .d (.slice .str v7), .d (.slice .api_Node v8)])] 2
noncomputable def q18pairs_C1 (v0 : Bool) (v1 : List (List UInt8)) (v2 : Int) (v3 : Int) (v4 : Int) (v5 : List UInt8) (v6 : Int) (v7 : List UInt8) (v8 : List (List UInt8)) (v9 : List Node) : ASt E := ASt.mk 132 [(1, .d (.bool v0)), (4, .ptr 0 0), (6, .ptr 1 0), (7, .d (.slice .str v1)), (9, .d (.int .i64 v2)), (10, .d (.int .i64 v3))] [(0, .box [.d (.int .i64 v4), .d (.str v5), .d (.raw (.slice none 0 0)), .d (.raw (.slice none 0 0))]), (1, .box [.d (.int .i64 v6), .d (.str v7), .d (.slice .str v8), .d (.slice .api_Node v9)])] 2
noncomputable def q18pairs_C2 (v0 : Bool) (v1 : Int) (v2 : Int) (v3 : List UInt8) (v4 : List (List UInt8)) (v5 : List Node) (v6 : Int) (v7 : List UInt8) (v8 : Int) (v9 : List UInt8) (v10 : List (List UInt8)) (v11 : List Node) : ASt E := ASt.mk 132 [(1, .d (.bool v0)), (2, .ptr 0 0), (4, .ptr 1 0), (6, .ptr 2 0), (13, .d (.int .i64 v1))] [(0, .box [.d (.int .i64 v2), .d (.str v3), .d (.slice .str v4), .d (.slice .api_Node v5)]), (1, .box [.d (.int .i64 v6), .d (.str v7), .d (.raw (.slice none 0 0)), .d (.raw (.slice none 0 0))]), (2, .box [.d (.int .i64 v8), .d (.str v9), .d (.slice .str v10), .d (.slice .api_Node v11)])] 3
noncomputable def q18pairs_t (G : Nat → ASt E → Option (List (TV E))) (x0 : Node) (x1 : Bool) : Option (List (TV E)) :=
  bif (rtxB (⟨x0.kind, x0.text, x0.keys, x0.kids⟩ : Node)) then G 0 (q18pairs_C0 x1 (rtxL (⟨x0.kind, x0.text, x0.keys, x0.kids⟩ : Node)) (0 : Int) (0 : Int) ([] : List UInt8) (0 : Int) ([] : List UInt8) ([] : List (List UInt8)) ([] : List Node)) else (bif (x0.kind != (3 : Int)) then some [⟨.api_Node, (⟨(0 : Int), ([] : List UInt8), ([] : List (List UInt8)), ([] : List Node)⟩ : Node)⟩, ⟨.bool, false⟩] else G 2 (q18pairs_C2 x1 (0 : Int) x0.kind x0.text x0.keys x0.kids (0 : Int) ([] : List UInt8) (0 : Int) ([] : List UInt8) ([] : List (List UInt8)) ([] : List Node)))
theorem q18pairs_e (G : Nat → ASt E → Option (List (TV E))) (x0 : Node) (x1 : Bool) : runE q18pairs_O q18pairs_H G Tryz.f36 [⟨.api_Node, x0⟩, ⟨.bool, x1⟩] = q18pairs_t G x0 x1 := by kernel_rfl
noncomputable def q18pairs_t0 (G : Nat → ASt E → Option (List (TV E))) (v0 : Bool) (v1 : List (List UInt8)) (v2 : Int) (v3 : Int) (v4 : List UInt8) (v5 : Int) (v6 : List UInt8) (v7 : List (List UInt8)) (v8 : List Node) : Option (List (TV E)) :=
  bif (decide (v2 < (v1.length : Int))) then G 1 (q18pairs_C1 v0 v1 v2 (0 : Int) v3 v4 v5 v6 v7 v8) else (bif (okDn (⟨v5, v6, v7, v8⟩ : Node) true) then some [⟨.api_Node, (⟨(doneV (⟨v5, v6, v7, v8⟩ : Node) true).kind, (doneV (⟨v5, v6, v7, v8⟩ : Node) true).text, (doneV (⟨v5, v6, v7, v8⟩ : Node) true).keys, (doneV (⟨v5, v6, v7, v8⟩ : Node) true).kids⟩ : Node)⟩, ⟨.bool, (doneB (⟨v5, v6, v7, v8⟩ : Node) true)⟩] else none)
theorem q18pairs_l0 (G : Nat → ASt E → Option (List (TV E))) (v0 : Bool) (v1 : List (List UInt8)) (v2 : Int) (v3 : Int) (v4 : List UInt8) (v5 : Int) (v6 : List UInt8) (v7 : List (List UInt8)) (v8 : List Node) : runL q18pairs_O q18pairs_H G Tryz.f36 0 (q18pairs_C0 v0 v1 v2 v3 v4 v5 v6 v7 v8) = q18pairs_t0 G v0 v1 v2 v3 v4 v5 v6 v7 v8 := by kernel_rfl
noncomputable def q18pairs_t1 (G : Nat → ASt E → Option (List (TV E))) (v0 : Bool) (v1 : List (List UInt8)) (v2 : Int) (v3 : Int) (v4 : Int) (v5 : List UInt8) (v6 : Int) (v7 : List UInt8) (v8 : List (List UInt8)) (v9 : List Node) : Option (List (TV E)) :=
  bif (decide ((0 : Int) ≤ v2) && decide (v2 < (v1.length : Int))) then (bif ((decide ((0 : Int) ≤ v2) && decide (v2 < (v1.length : Int))) || !(decide (v3 < ((List.getD v1 (Int.toNat v2) (dflt .str)).length : Int)))) then (bif ((decide ((0 : Int) ≤ v3) && decide (v3 < ((List.getD v1 (Int.toNat v2) (dflt .str)).length : Int))) || !(decide (v3 < ((List.getD v1 (Int.toNat v2) (dflt .str)).length : Int)))) then (bif (bif (decide (v3 < ((List.getD v1 (Int.toNat v2) (dflt .str)).length : Int))) then ((((List.getD (List.getD v1 (Int.toNat v2) (dflt .str)) (Int.toNat v3) 0).toNat : Nat) : Int) != (61 : Int)) else false) then G 1 (q18pairs_C1 v0 v1 v2 (w64 (v3 + (1 : Int))) v4 v5 v6 v7 v8 v9) else (bif (decide ((0 : Int) ≤ v2) && decide (v2 < (v1.length : Int))) then (bif (decide (v3 < ((List.getD v1 (Int.toNat v2) (dflt .str)).length : Int))) then (bif (decide ((0 : Int) ≤ v2) && decide (v2 < (v1.length : Int))) then (bif (decide ((0 : Int) ≤ (w64 (v3 + (1 : Int)))) && decide ((w64 (v3 + (1 : Int))) ≤ ((List.getD v1 (Int.toNat v2) (dflt .str)).length : Int)) && decide (((List.getD v1 (Int.toNat v2) (dflt .str)).length : Int) ≤ ((List.getD v1 (Int.toNat v2) (dflt .str)).length : Int))) then (bif (decide ((0 : Int) ≤ v2) && decide (v2 < (v1.length : Int))) then (bif (decide ((0 : Int) ≤ (0 : Int)) && decide ((0 : Int) ≤ v3) && decide (v3 ≤ ((List.getD v1 (Int.toNat v2) (dflt .str)).length : Int))) then (bif (((fun l _ => ln6 l) v8 (List.take (Int.toNat v3 - Int.toNat (0 : Int)) (List.drop (Int.toNat (0 : Int)) (List.getD v1 (Int.toNat v2) (dflt .str))))) || !(!(!(keyB (List.take (Int.toNat v3 - Int.toNat (0 : Int)) (List.drop (Int.toNat (0 : Int)) (List.getD v1 (Int.toNat v2) (dflt .str)))) v0)))) then (bif (bif (!(keyB (List.take (Int.toNat v3 - Int.toNat (0 : Int)) (List.drop (Int.toNat (0 : Int)) (List.getD v1 (Int.toNat v2) (dflt .str)))) v0)) then true else (inV v8 (List.take (Int.toNat v3 - Int.toNat (0 : Int)) (List.drop (Int.toNat (0 : Int)) (List.getD v1 (Int.toNat v2) (dflt .str)))))) then some [⟨.api_Node, (⟨(0 : Int), ([] : List UInt8), ([] : List (List UInt8)), ([] : List Node)⟩ : Node)⟩, ⟨.bool, false⟩] else (bif (okWi (⟨v6, v7, v8, v9⟩ : Node) (List.take (Int.toNat v3 - Int.toNat (0 : Int)) (List.drop (Int.toNat (0 : Int)) (List.getD v1 (Int.toNat v2) (dflt .str)))) (txtN (List.take (Int.toNat ((List.getD v1 (Int.toNat v2) (dflt .str)).length : Int) - Int.toNat (w64 (v3 + (1 : Int)))) (List.drop (Int.toNat (w64 (v3 + (1 : Int)))) (List.getD v1 (Int.toNat v2) (dflt .str)))))) then G 0 (q18pairs_C0 v0 v1 (w64 (v2 + (1 : Int))) v4 v5 ((withV (⟨v6, v7, v8, v9⟩ : Node) (List.take (Int.toNat v3 - Int.toNat (0 : Int)) (List.drop (Int.toNat (0 : Int)) (List.getD v1 (Int.toNat v2) (dflt .str)))) (txtN (List.take (Int.toNat ((List.getD v1 (Int.toNat v2) (dflt .str)).length : Int) - Int.toNat (w64 (v3 + (1 : Int)))) (List.drop (Int.toNat (w64 (v3 + (1 : Int)))) (List.getD v1 (Int.toNat v2) (dflt .str)))))).kind) ((withV (⟨v6, v7, v8, v9⟩ : Node) (List.take (Int.toNat v3 - Int.toNat (0 : Int)) (List.drop (Int.toNat (0 : Int)) (List.getD v1 (Int.toNat v2) (dflt .str)))) (txtN (List.take (Int.toNat ((List.getD v1 (Int.toNat v2) (dflt .str)).length : Int) - Int.toNat (w64 (v3 + (1 : Int)))) (List.drop (Int.toNat (w64 (v3 + (1 : Int)))) (List.getD v1 (Int.toNat v2) (dflt .str)))))).text) ((withV (⟨v6, v7, v8, v9⟩ : Node) (List.take (Int.toNat v3 - Int.toNat (0 : Int)) (List.drop (Int.toNat (0 : Int)) (List.getD v1 (Int.toNat v2) (dflt .str)))) (txtN (List.take (Int.toNat ((List.getD v1 (Int.toNat v2) (dflt .str)).length : Int) - Int.toNat (w64 (v3 + (1 : Int)))) (List.drop (Int.toNat (w64 (v3 + (1 : Int)))) (List.getD v1 (Int.toNat v2) (dflt .str)))))).keys) ((withV (⟨v6, v7, v8, v9⟩ : Node) (List.take (Int.toNat v3 - Int.toNat (0 : Int)) (List.drop (Int.toNat (0 : Int)) (List.getD v1 (Int.toNat v2) (dflt .str)))) (txtN (List.take (Int.toNat ((List.getD v1 (Int.toNat v2) (dflt .str)).length : Int) - Int.toNat (w64 (v3 + (1 : Int)))) (List.drop (Int.toNat (w64 (v3 + (1 : Int)))) (List.getD v1 (Int.toNat v2) (dflt .str)))))).kids)) else none)) else none) else none) else none) else none) else none) else (bif (decide ((0 : Int) ≤ v2) && decide (v2 < (v1.length : Int))) then (bif (decide ((0 : Int) ≤ (0 : Int)) && decide ((0 : Int) ≤ v3) && decide (v3 ≤ ((List.getD v1 (Int.toNat v2) (dflt .str)).length : Int))) then (bif (((fun l _ => ln6 l) v8 (List.take (Int.toNat v3 - Int.toNat (0 : Int)) (List.drop (Int.toNat (0 : Int)) (List.getD v1 (Int.toNat v2) (dflt .str))))) || !(!(!(keyB (List.take (Int.toNat v3 - Int.toNat (0 : Int)) (List.drop (Int.toNat (0 : Int)) (List.getD v1 (Int.toNat v2) (dflt .str)))) v0)))) then (bif (bif (!(keyB (List.take (Int.toNat v3 - Int.toNat (0 : Int)) (List.drop (Int.toNat (0 : Int)) (List.getD v1 (Int.toNat v2) (dflt .str)))) v0)) then true else (inV v8 (List.take (Int.toNat v3 - Int.toNat (0 : Int)) (List.drop (Int.toNat (0 : Int)) (List.getD v1 (Int.toNat v2) (dflt .str)))))) then some [⟨.api_Node, (⟨(0 : Int), ([] : List UInt8), ([] : List (List UInt8)), ([] : List Node)⟩ : Node)⟩, ⟨.bool, false⟩] else (bif (okWi (⟨v6, v7, v8, v9⟩ : Node) (List.take (Int.toNat v3 - Int.toNat (0 : Int)) (List.drop (Int.toNat (0 : Int)) (List.getD v1 (Int.toNat v2) (dflt .str)))) (txtN ([] : List UInt8))) then G 0 (q18pairs_C0 v0 v1 (w64 (v2 + (1 : Int))) v4 v5 ((withV (⟨v6, v7, v8, v9⟩ : Node) (List.take (Int.toNat v3 - Int.toNat (0 : Int)) (List.drop (Int.toNat (0 : Int)) (List.getD v1 (Int.toNat v2) (dflt .str)))) (txtN ([] : List UInt8))).kind) ((withV (⟨v6, v7, v8, v9⟩ : Node) (List.take (Int.toNat v3 - Int.toNat (0 : Int)) (List.drop (Int.toNat (0 : Int)) (List.getD v1 (Int.toNat v2) (dflt .str)))) (txtN ([] : List UInt8))).text) ((withV (⟨v6, v7, v8, v9⟩ : Node) (List.take (Int.toNat v3 - Int.toNat (0 : Int)) (List.drop (Int.toNat (0 : Int)) (List.getD v1 (Int.toNat v2) (dflt .str)))) (txtN ([] : List UInt8))).keys) ((withV (⟨v6, v7, v8, v9⟩ : Node) (List.take (Int.toNat v3 - Int.toNat (0 : Int)) (List.drop (Int.toNat (0 : Int)) (List.getD v1 (Int.toNat v2) (dflt .str)))) (txtN ([] : List UInt8))).kids)) else none)) else none) else none) else none)) else none)) else none) else none) else none
theorem q18pairs_l1 (G : Nat → ASt E → Option (List (TV E))) (v0 : Bool) (v1 : List (List UInt8)) (v2 : Int) (v3 : Int) (v4 : Int) (v5 : List UInt8) (v6 : Int) (v7 : List UInt8) (v8 : List (List UInt8)) (v9 : List Node) : runL q18pairs_O q18pairs_H G Tryz.f36 1 (q18pairs_C1 v0 v1 v2 v3 v4 v5 v6 v7 v8 v9) = q18pairs_t1 G v0 v1 v2 v3 v4 v5 v6 v7 v8 v9 := by kernel_rfl
noncomputable def q18pairs_t2 (G : Nat → ASt E → Option (List (TV E))) (v0 : Bool) (v1 : Int) (v2 : Int) (v3 : List UInt8) (v4 : List (List UInt8)) (v5 : List Node) (v6 : Int) (v7 : List UInt8) (v8 : Int) (v9 : List UInt8) (v10 : List (List UInt8)) (v11 : List Node) : Option (List (TV E)) :=
  bif (decide (v1 < (v4.length : Int))) then (bif (decide ((0 : Int) ≤ v1) && decide (v1 < (v4.length : Int))) then (bif ((decide ((0 : Int) ≤ v1) && decide (v1 < (v5.length : Int))) || !(!(!(keyB (List.getD v4 (Int.toNat v1) (dflt .str)) v0)))) then (bif (bif (!(keyB (List.getD v4 (Int.toNat v1) (dflt .str)) v0)) then true else (decide ((1 : Int) < (List.getD v5 (Int.toNat v1) (dflt .api_Node)).kind))) then some [⟨.api_Node, (⟨(0 : Int), ([] : List UInt8), ([] : List (List UInt8)), ([] : List Node)⟩ : Node)⟩, ⟨.bool, false⟩] else (bif (decide ((0 : Int) ≤ v1) && decide (v1 < (v4.length : Int))) then (bif (decide ((0 : Int) ≤ v1) && decide (v1 < (v5.length : Int))) then (bif (okWi (⟨v8, v9, v10, v11⟩ : Node) (List.getD v4 (Int.toNat v1) (dflt .str)) (txtN ((List.getD v5 (Int.toNat v1) (dflt .api_Node)).text))) then G 2 (q18pairs_C2 v0 (w64 (v1 + (1 : Int))) v2 v3 v4 v5 v6 v7 ((withV (⟨v8, v9, v10, v11⟩ : Node) (List.getD v4 (Int.toNat v1) (dflt .str)) (txtN ((List.getD v5 (Int.toNat v1) (dflt .api_Node)).text))).kind) ((withV (⟨v8, v9, v10, v11⟩ : Node) (List.getD v4 (Int.toNat v1) (dflt .str)) (txtN ((List.getD v5 (Int.toNat v1) (dflt .api_Node)).text))).text) ((withV (⟨v8, v9, v10, v11⟩ : Node) (List.getD v4 (Int.toNat v1) (dflt .str)) (txtN ((List.getD v5 (Int.toNat v1) (dflt .api_Node)).text))).keys) ((withV (⟨v8, v9, v10, v11⟩ : Node) (List.getD v4 (Int.toNat v1) (dflt .str)) (txtN ((List.getD v5 (Int.toNat v1) (dflt .api_Node)).text))).kids)) else none) else none) else none)) else none) else none) else (bif (okDn (⟨v8, v9, v10, v11⟩ : Node) true) then some [⟨.api_Node, (⟨(doneV (⟨v8, v9, v10, v11⟩ : Node) true).kind, (doneV (⟨v8, v9, v10, v11⟩ : Node) true).text, (doneV (⟨v8, v9, v10, v11⟩ : Node) true).keys, (doneV (⟨v8, v9, v10, v11⟩ : Node) true).kids⟩ : Node)⟩, ⟨.bool, (doneB (⟨v8, v9, v10, v11⟩ : Node) true)⟩] else none)
theorem q18pairs_l2 (G : Nat → ASt E → Option (List (TV E))) (v0 : Bool) (v1 : Int) (v2 : Int) (v3 : List UInt8) (v4 : List (List UInt8)) (v5 : List Node) (v6 : Int) (v7 : List UInt8) (v8 : Int) (v9 : List UInt8) (v10 : List (List UInt8)) (v11 : List Node) : runL q18pairs_O q18pairs_H G Tryz.f36 2 (q18pairs_C2 v0 v1 v2 v3 v4 v5 v6 v7 v8 v9 v10 v11) = q18pairs_t2 G v0 v1 v2 v3 v4 v5 v6 v7 v8 v9 v10 v11 := by kernel_rfl
theorem q18pairs_f : Tryz.prog.funcs[36]? = some Tryz.f36 := by kernel_rfl
theorem q18pairs_n : (Tryz.f36.name == "runtime.NumGoroutine") = false := by kernel_rfl
theorem q18pairs_b : Tryz.f36.body.isNone = false := by kernel_rfl
theorem q18pairs_ex : ∃ fn, Tryz.prog.funcs[36]? = some fn ∧ (fn.name == "runtime.NumGoroutine") = false ∧ fn.body.isNone = false := ⟨Tryz.f36, q18pairs_f, q18pairs_n, q18pairs_b⟩
theorem q18pairs_hO : OracleOk E q18pairs_O := orac_ok (.cons rin_ok (.cons rwith_ok (.cons r18text_ok (.cons r18done_ok (.cons r18key_ok (.cons q18texts_ok .nil)))))) .nil .nil .nil
theorem q18pairs_s0 {res : List (TV E)} {v0 : Bool} {v1 : List (List UInt8)} {v2 : Int} {v3 : Int} {v4 : List UInt8} {v5 : Int} {v6 : List UInt8} {v7 : List (List UInt8)} {v8 : List Node} (h : q18pairs_t0 (Gr E Tryz.f36 res) v0 v1 v2 v3 v4 v5 v6 v7 v8 = some res) : Ev E Tryz.f36 res 0 (q18pairs_C0 v0 v1 v2 v3 v4 v5 v6 v7 v8) := Ev.step q18pairs_hO mix ((q18pairs_l0 _ v0 v1 v2 v3 v4 v5 v6 v7 v8).trans h)
theorem q18pairs_s1 {res : List (TV E)} {v0 : Bool} {v1 : List (List UInt8)} {v2 : Int} {v3 : Int} {v4 : Int} {v5 : List UInt8} {v6 : Int} {v7 : List UInt8} {v8 : List (List UInt8)} {v9 : List Node} (h : q18pairs_t1 (Gr E Tryz.f36 res) v0 v1 v2 v3 v4 v5 v6 v7 v8 v9 = some res) : Ev E Tryz.f36 res 1 (q18pairs_C1 v0 v1 v2 v3 v4 v5 v6 v7 v8 v9) := Ev.step q18pairs_hO mix ((q18pairs_l1 _ v0 v1 v2 v3 v4 v5 v6 v7 v8 v9).trans h)
theorem q18pairs_s2 {res : List (TV E)} {v0 : Bool} {v1 : Int} {v2 : Int} {v3 : List UInt8} {v4 : List (List UInt8)} {v5 : List Node} {v6 : Int} {v7 : List UInt8} {v8 : Int} {v9 : List UInt8} {v10 : List (List UInt8)} {v11 : List Node} (h : q18pairs_t2 (Gr E Tryz.f36 res) v0 v1 v2 v3 v4 v5 v6 v7 v8 v9 v10 v11 = some res) : Ev E Tryz.f36 res 2 (q18pairs_C2 v0 v1 v2 v3 v4 v5 v6 v7 v8 v9 v10 v11) := Ev.step q18pairs_hO mix ((q18pairs_l2 _ v0 v1 v2 v3 v4 v5 v6 v7 v8 v9 v10 v11).trans h)
theorem q18pairs_ok_of (h : ∀ (x0 : Node) (x1 : Bool), okRp x0 x1 = true → q18pairs_t (Gr E Tryz.f36 [⟨.api_Node, rprV x0 x1⟩, ⟨.bool, rprB x0 x1⟩]) x0 x1 = some [⟨.api_Node, rprV x0 x1⟩, ⟨.bool, rprB x0 x1⟩]) : FnOk E q18pairs_id q18pairs_W := fn22_ok q18pairs_hO mix q18pairs_f q18pairs_n q18pairs_b (fun x0 x1 hk => (q18pairs_e _ x0 x1).trans (h x0 x1 hk))
theorem q18pairs_1 (vars : Bool) (l : List (List UInt8)) (hl : l.length ≤ 1000) (i : Nat) (hi : i < l.length) (hx : l[i].length ≤ 1000) (u : Int) (t : List UInt8) (o : Node) (ho : Bq leafK 1 i o) (R : List (TV E))
    (Kn : (bif !(keyB (l[i].take (fi l[i])) vars) then true else inV o.keys (l[i].take (fi l[i]))) = true → R = oR none)
    (K : (bif !(keyB (l[i].take (fi l[i])) vars) then true else inV o.keys (l[i].take (fi l[i]))) = false → Ev E Tryz.f36 R 0 (q18pairs_C0 vars l ((i + 1 : Nat) : Int) u t (withV o (l[i].take (fi l[i])) (txtN (l[i].drop (fi l[i] + 1)))).kind (withV o (l[i].take (fi l[i])) (txtN (l[i].drop (fi l[i] + 1)))).text (withV o (l[i].take (fi l[i])) (txtN (l[i].drop (fi l[i] + 1)))).keys (withV o (l[i].take (fi l[i])) (txtN (l[i].drop (fi l[i] + 1)))).kids)) :
    ∀ (m a : Nat), l[i].length - a = m → a ≤ l[i].length → a + fi (l[i].drop a) = fi l[i] → Ev E Tryz.f36 R 1 (q18pairs_C1 vars l i a u t o.kind o.text o.keys o.kids) := by
  have e1 : w64 ((i : Int) + 1) = ((i + 1 : Nat) : Int) := by rw [w64_id (by omega) (by omega)]; omega
  have oL : ln6 o.keys = true := ln6_iff.2 (by have := ho.len; omega)
  have oW := ho.ok (by omega)
  have stop : ∀ (a : Nat), a = fi l[i] → a ≤ l[i].length → (bif decide ((a : Int) < (l[i].length : Int)) then ((List.getD l[i] a 0).toNat : Int) != 61 else false) = false → ((decide ((a : Int) < (l[i].length : Int))) || !(decide ((a : Int) < (l[i].length : Int)))) = true →
      Ev E Tryz.f36 R 1 (q18pairs_C1 vars l i a u t o.kind o.text o.keys o.kids) := by
    intro a hf ha h1 h2
    refine q18pairs_s1 ?_
    simp only [q18pairs_t1, dlt hi, d0, d00, Bool.and_self, Bool.true_or, Bool.true_and, cond_true, gd l _ i hi]
    simp only [Int.toNat_natCast, h1, h2, cond_true, cond_false, dle ha, cutT, oL, Bool.true_or, node_eta, oW, e1]
    subst hf
    by_cases hlt : fi l[i] < l[i].length
    · have e2 : w64 ((fi l[i] : Int) + 1) = ((fi l[i] + 1 : Nat) : Int) := by rw [w64_id (by omega) (by omega)]; omega
      simp only [dlt hlt, cond_true, e2, d0, dle (show fi l[i] + 1 ≤ l[i].length by omega), dlr, Bool.and_self, Int.toNat_natCast, cutN]
      cases hb : (bif !(keyB (l[i].take (fi l[i])) vars) then true else inV o.keys (l[i].take (fi l[i]))) with
      | true => rw [Kn hb]; rfl
      | false => exact Gr_of (K hb)
    · simp only [dge (show l[i].length ≤ fi l[i] by omega), cond_false]
      have hdr : l[i].drop (fi l[i] + 1) = [] := List.drop_eq_nil_of_le (by omega)
      rw [hdr] at K
      cases hb : (bif !(keyB (l[i].take (fi l[i])) vars) then true else inV o.keys (l[i].take (fi l[i]))) with
      | true => rw [Kn hb]; rfl
      | false => exact Gr_of (K hb)
  intro m
  induction m with
  | zero =>
    intro a h1 h2 h3
    have hd := dge (show l[i].length ≤ a by omega)
    rw [List.drop_eq_nil_of_le (show l[i].length ≤ a by omega)] at h3
    exact stop a (by simpa [fi] using h3) h2 (by rw [hd]; rfl) (by rw [hd]; rfl)
  | succ m ih =>
    intro a h1 h2 h3
    have ha : a < l[i].length := by omega
    have hd := dlt ha
    have hg : List.getD l[i] a 0 = l[i][a] := gd l[i] 0 a ha
    have h3 : a + (bif ((l[i][a].toNat : Int) != 61) then fi (l[i].drop (a + 1)) + 1 else 0) = fi l[i] := by
      rw [← List.getElem_cons_drop ha] at h3
      exact h3
    cases hq : ((l[i][a].toNat : Int) != 61) with
    | false =>
      rw [hq, cond_false] at h3
      exact stop a (by omega) h2 (by rw [hd, cond_true]; exact (congrArg (fun c : UInt8 => ((c.toNat : Int) != 61)) hg).trans hq) (by rw [hd]; rfl)
    | true =>
      rw [hq, cond_true] at h3
      have e2 : w64 ((a : Int) + 1) = ((a + 1 : Nat) : Int) := by rw [w64_id (by omega) (by omega)]; omega
      refine q18pairs_s1 ?_
      simp only [q18pairs_t1, dlt hi, d0, d00, Bool.and_self, Bool.true_or, Bool.true_and, cond_true, gd l _ i hi]
      simp only [Int.toNat_natCast, hd, Bool.true_or, cond_true, hg, hq, e2]
      exact Gr_of (ih (a + 1) (by omega) (by omega) (by omega))
theorem q18pairs_0 (vars : Bool) (l : List (List UInt8)) (hl : l.length ≤ 1000) (hx : ∀ x ∈ l, x.length ≤ 1000) (u : Int) (t : List UInt8) : ∀ (m i : Nat) (o : Node), l.length - i = m → i ≤ l.length → Bq leafK 1 i o →
    Ev E Tryz.f36 (oR (rp0 (fun s => keyB s vars) (l.drop i) o)) 0 (q18pairs_C0 vars l i u t o.kind o.text o.keys o.kids) := by
  intro m
  induction m with
  | zero =>
    intro i o h1 h2 h3
    refine q18pairs_s0 ?_
    simp only [q18pairs_t0, dge (show l.length ≤ i by omega), cond_false, node_eta, List.drop_eq_nil_of_le (show l.length ≤ i by omega), rp0, h3.done_ok (by decide) true, cond_true]
    rfl
  | succ m ih =>
    intro i o h1 h2 h3
    have hi : i < l.length := by omega
    refine q18pairs_s0 ?_
    simp only [q18pairs_t0, dlt hi, cond_true]
    refine Gr_of (q18pairs_1 vars l hl i hi (hx _ (List.getElem_mem hi)) u t o h3 _ (fun hb => ?_) (fun hb => ?_) _ 0 rfl (Nat.zero_le _) (by rw [List.drop_zero]; omega))
    · rw [← List.getElem_cons_drop hi]; unfold rp0; rw [hb]; rfl
    · rw [← List.getElem_cons_drop hi]; unfold rp0; rw [hb]
      exact ih (i + 1) _ (by omega) (by omega) (h3.put (txtN_leaf _ _) (txtN_wg _ 0))
theorem q18pairs_2 (vars : Bool) (n : Node) (hk : n.keys.length = n.kids.length) (hl : n.keys.length ≤ 1000) (u2 : Int) (u3 : List UInt8) (u : Int) (t : List UInt8) : ∀ (m i : Nat) (o : Node), n.keys.length - i = m → i ≤ n.keys.length → Bq leafK 1 i o →
    Ev E Tryz.f36 (oR (rp1 (fun s => keyB s vars) (n.keys.drop i) (n.kids.drop i) o)) 2 (q18pairs_C2 vars i u2 u3 n.keys n.kids u t o.kind o.text o.keys o.kids) := by
  intro m
  induction m with
  | zero =>
    intro i o h1 h2 h4
    refine q18pairs_s2 ?_
    simp only [q18pairs_t2, dge (show n.keys.length ≤ i by omega), cond_false, node_eta, List.drop_eq_nil_of_le (show n.keys.length ≤ i by omega), rp1, h4.done_ok (by decide) true, cond_true]
    rfl
  | succ m ih =>
    intro i o h1 h2 h4
    have hi : i < n.keys.length := by omega
    have hj : i < n.kids.length := by omega
    have e1 : w64 ((i : Int) + 1) = ((i + 1 : Nat) : Int) := by rw [w64_id (by omega) (by omega)]; omega
    refine q18pairs_s2 ?_
    rw [← List.getElem_cons_drop hi, ← List.getElem_cons_drop hj]
    simp only [q18pairs_t2, dlt hi, dlt hj, d0, Bool.and_self, Bool.true_or, cond_true, gd n.keys _ i hi, gd n.kids _ i hj, node_eta, h4.ok (by omega), e1, rp1]
    cases hb : (bif !(keyB n.keys[i] vars) then true else decide ((1 : Int) < n.kids[i].kind)) with
    | true => rfl
    | false => exact Gr_of (ih (i + 1) _ (by omega) (by omega) (h4.put (txtN_leaf _ _) (txtN_wg _ 0)))
theorem rtxV_len : ∀ l : List Node, (rtxV l).length ≤ l.length
  | [] => Nat.le_refl _
  | x :: t => by
    unfold rtxV
    cases x.kind != 1 with
    | true => exact Nat.zero_le _
    | false => have := rtxV_len t; simp only [cond_false, List.length_cons]; omega
theorem rtxL_len (n : Node) : (rtxL n).length ≤ n.kids.length := by
  unfold rtxL
  cases rtx0 n with
  | true => exact Nat.zero_le _
  | false => exact rtxV_len _
theorem rtxV_txt {B : Nat} : ∀ l : List Node, (∀ y ∈ l, y.text.length ≤ B) → ∀ x ∈ rtxV l, x.length ≤ B
  | [], _, x, hx => by cases hx
  | y :: t, h, x, hx => by
    unfold rtxV at hx
    cases hb : y.kind != 1 with
    | true => rw [hb] at hx; cases hx
    | false =>
      rw [hb, cond_false] at hx
      rcases List.mem_cons.1 hx with rfl | hx
      · exact h y List.mem_cons_self
      · exact rtxV_txt t (fun z hz => h z (List.mem_cons_of_mem _ hz)) x hx
theorem rtxL_txt {B : Nat} {n : Node} (h : ∀ y ∈ n.kids, y.text.length ≤ B) : ∀ x ∈ rtxL n, x.length ≤ B := by
  unfold rtxL
  cases rtx0 n with
  | true => intro x hx; cases hx
  | false => exact rtxV_txt _ h
theorem q18pairs_ok : FnOk E q18pairs_id q18pairs_W := q18pairs_ok_of fun n vars hk => by
  simp only [okRp, Bool.and_eq_true, decide_eq_true_eq, List.all_eq_true] at hk
  obtain ⟨⟨⟨h1, h2⟩, h3⟩, h4⟩ := hk
  have z : Bq leafK 1 0 ⟨0, [], [], []⟩ := Bq.nil (.inl rfl)
  simp only [q18pairs_t, node_eta]
  unfold rprV rprB rpP
  cases rtxB n with
  | true => exact Gr_of (q18pairs_0 vars _ (Nat.le_trans (rtxL_len n) h3) (rtxL_txt h4) _ _ _ 0 ⟨0, [], [], []⟩ rfl (Nat.zero_le _) z)
  | false =>
    simp only [cond_false]
    by_cases h : n.kind = 3
    · rw [neF h]; exact Gr_of (q18pairs_2 vars n (h1 h) h2 _ _ _ _ _ 0 ⟨0, [], [], []⟩ rfl (Nat.zero_le _) z)
    · rw [neT h]; rfl
/-! The fold of Set -/
def rs1 (f : List UInt8 → Bool) : List (List UInt8) → Bool → Node → Node × Bool
  | [], b, o => (o, b)
  | s :: t, b, o => bif b then rs1 f t (f s) (withV o s zn) else (o, false)
def rs0 (n : Node) : Bool := bif n.kind == 3 then decide ((n.keys.length : Int) ≤ 32) else false
def rsP (n : Node) : Node × Bool := bif rs0 n then rs1 (nameV badS) n.keys (!(n.kids.any badKid)) zn else rs1 (nameV badS) (rtxL n) (rtxB n) zn
def rsetV (n : Node) : Node := doneV (rsP n).1 (rsP n).2
def rsetB (n : Node) : Bool := doneB (rsP n).1 (rsP n).2
def okRs (n : Node) : Bool := decide (n.keys.length ≤ 1000) && decide (n.kids.length ≤ 1000)
noncomputable def q18set_W : FnW E := fn12 (E := E) .api_Node .api_Node .bool okRs rsetV rsetB
def q18set_id : FuncId := 37
noncomputable def q18set_O : Oracle E := orac [(94, rservice_W), (92, rwith_W), (93, r18done_W), (88, q18texts_W)] [] [] []
noncomputable def q18set_H : Hint E := Hint.mk [(0, [1, 2, 4, 5, 6]), (1, [2, 4, 5, 7, 8])] [] [(1, [(7, some 2, false, .str), (7, some 3, false, .api_Node)])] [] []
noncomputable def q18set_C0 (v0 : List (List UInt8)) (v1 : Bool) (v2 : Int) (v3 : Int) (v4 : List UInt8) (v5 : List (List UInt8)) (v6 : List Node) (v7 : Int) (v8 : List UInt8) : ASt E := ASt.mk 85 [(1, .ptr 0 0), (2, .ptr 1 0), (4, .d (.slice .str v0)), (5, .d (.bool v1)), (6, .d (.int .i64 v2))] [(0, .box [.d (.int .i64 v3), .d (.str v4), .d (.slice .str v5), .d (.slice .api_Node v6)]), (1, .box [.d (.int .i64 v7), .d (.str v8), .d (.raw (.slice none 0 0)), .d (.raw (.slice none 0 0))])] 2
noncomputable def q18set_C1 (v0 : List (List UInt8)) (v1 : Bool) (v2 : Int) (v3 : Int) (v4 : List UInt8) (v5 : Int) (v6 : List UInt8) (v7 : List (List UInt8)) (v8 : List Node) : ASt E := ASt.mk 85 [(2, .ptr 0 0), (4, .d (.slice .str v0)), (5, .d (.bool v1)), (7, .ptr 1 0), (8, .d (.int .i64 v2))] [(0, .box [.d (.int .i64 v3), .d (.str v4), .d (.raw (.slice none 0 0)), .d (.raw (.slice none 0 0))]), (1, .box [.d (.int .i64 v5), .d (.str v6), .d (.slice .str v7), .d (.slice .api_Node v8)])] 2
noncomputable def q18set_t (G : Nat → ASt E → Option (List (TV E))) (x0 : Node) : Option (List (TV E)) :=
  bif (bif (x0.kind == (3 : Int)) then (decide ((x0.keys.length : Int) ≤ (32 : Int))) else false) then G 0 (q18set_C0 x0.keys true (0 : Int) x0.kind x0.text x0.keys x0.kids (0 : Int) ([] : List UInt8)) else G 1 (q18set_C1 (rtxL (⟨x0.kind, x0.text, x0.keys, x0.kids⟩ : Node)) (rtxB (⟨x0.kind, x0.text, x0.keys, x0.kids⟩ : Node)) (0 : Int) (0 : Int) ([] : List UInt8) (0 : Int) ([] : List UInt8) ([] : List (List UInt8)) ([] : List Node))
theorem q18set_e (G : Nat → ASt E → Option (List (TV E))) (x0 : Node) : runE q18set_O q18set_H G Tryz.f37 [⟨.api_Node, x0⟩] = q18set_t G x0 := by kernel_rfl
noncomputable def q18set_t0 (G : Nat → ASt E → Option (List (TV E))) (v0 : List (List UInt8)) (v1 : Bool) (v2 : Int) (v3 : Int) (v4 : List UInt8) (v5 : List (List UInt8)) (v6 : List Node) (v7 : Int) (v8 : List UInt8) : Option (List (TV E)) :=
  bif (decide (v2 < (v6.length : Int))) then (bif (decide ((0 : Int) ≤ v2) && decide (v2 < (v6.length : Int))) then (bif ((decide ((0 : Int) ≤ v2) && decide (v2 < (v6.length : Int))) || !((List.getD v6 (Int.toNat v2) (dflt .api_Node)).kind != (0 : Int))) then (bif ((decide ((0 : Int) ≤ v2) && decide (v2 < (v6.length : Int))) || !(((List.getD v6 (Int.toNat v2) (dflt .api_Node)).kind != (0 : Int)) && (!((List.getD v6 (Int.toNat v2) (dflt .api_Node)).kind != (3 : Int))))) then (bif (bif ((List.getD v6 (Int.toNat v2) (dflt .api_Node)).kind != (0 : Int)) then (bif ((List.getD v6 (Int.toNat v2) (dflt .api_Node)).kind != (3 : Int)) then true else (decide ((0 : Int) < (((List.getD v6 (Int.toNat v2) (dflt .api_Node)).keys).length : Int)))) else false) then G 0 (q18set_C0 v0 false (w64 (v2 + (1 : Int))) v3 v4 v5 v6 v7 v8) else G 0 (q18set_C0 v0 v1 (w64 (v2 + (1 : Int))) v3 v4 v5 v6 v7 v8)) else none) else none) else none) else G 1 (q18set_C1 v0 v1 (0 : Int) v7 v8 (0 : Int) ([] : List UInt8) ([] : List (List UInt8)) ([] : List Node))
theorem q18set_l0 (G : Nat → ASt E → Option (List (TV E))) (v0 : List (List UInt8)) (v1 : Bool) (v2 : Int) (v3 : Int) (v4 : List UInt8) (v5 : List (List UInt8)) (v6 : List Node) (v7 : Int) (v8 : List UInt8) : runL q18set_O q18set_H G Tryz.f37 0 (q18set_C0 v0 v1 v2 v3 v4 v5 v6 v7 v8) = q18set_t0 G v0 v1 v2 v3 v4 v5 v6 v7 v8 := by kernel_rfl
noncomputable def q18set_t1 (G : Nat → ASt E → Option (List (TV E))) (v0 : List (List UInt8)) (v1 : Bool) (v2 : Int) (v3 : Int) (v4 : List UInt8) (v5 : Int) (v6 : List UInt8) (v7 : List (List UInt8)) (v8 : List Node) : Option (List (TV E)) :=
  bif (bif (decide (v2 < (v0.length : Int))) then v1 else false) then (bif (decide ((0 : Int) ≤ v2) && decide (v2 < (v0.length : Int))) then (bif (decide ((0 : Int) ≤ v2) && decide (v2 < (v0.length : Int))) then (bif (okWi (⟨v5, v6, v7, v8⟩ : Node) (List.getD v0 (Int.toNat v2) (dflt .str)) (⟨(0 : Int), ([] : List UInt8), ([] : List (List UInt8)), ([] : List Node)⟩ : Node)) then G 1 (q18set_C1 v0 ((nameV badS) (List.getD v0 (Int.toNat v2) (dflt .str))) (w64 (v2 + (1 : Int))) v3 v4 ((withV (⟨v5, v6, v7, v8⟩ : Node) (List.getD v0 (Int.toNat v2) (dflt .str)) (⟨(0 : Int), ([] : List UInt8), ([] : List (List UInt8)), ([] : List Node)⟩ : Node)).kind) ((withV (⟨v5, v6, v7, v8⟩ : Node) (List.getD v0 (Int.toNat v2) (dflt .str)) (⟨(0 : Int), ([] : List UInt8), ([] : List (List UInt8)), ([] : List Node)⟩ : Node)).text) ((withV (⟨v5, v6, v7, v8⟩ : Node) (List.getD v0 (Int.toNat v2) (dflt .str)) (⟨(0 : Int), ([] : List UInt8), ([] : List (List UInt8)), ([] : List Node)⟩ : Node)).keys) ((withV (⟨v5, v6, v7, v8⟩ : Node) (List.getD v0 (Int.toNat v2) (dflt .str)) (⟨(0 : Int), ([] : List UInt8), ([] : List (List UInt8)), ([] : List Node)⟩ : Node)).kids)) else none) else none) else none) else (bif (okDn (⟨v5, v6, v7, v8⟩ : Node) v1) then some [⟨.api_Node, (⟨(doneV (⟨v5, v6, v7, v8⟩ : Node) v1).kind, (doneV (⟨v5, v6, v7, v8⟩ : Node) v1).text, (doneV (⟨v5, v6, v7, v8⟩ : Node) v1).keys, (doneV (⟨v5, v6, v7, v8⟩ : Node) v1).kids⟩ : Node)⟩, ⟨.bool, (doneB (⟨v5, v6, v7, v8⟩ : Node) v1)⟩] else none)
theorem q18set_l1 (G : Nat → ASt E → Option (List (TV E))) (v0 : List (List UInt8)) (v1 : Bool) (v2 : Int) (v3 : Int) (v4 : List UInt8) (v5 : Int) (v6 : List UInt8) (v7 : List (List UInt8)) (v8 : List Node) : runL q18set_O q18set_H G Tryz.f37 1 (q18set_C1 v0 v1 v2 v3 v4 v5 v6 v7 v8) = q18set_t1 G v0 v1 v2 v3 v4 v5 v6 v7 v8 := by kernel_rfl
theorem q18set_f : Tryz.prog.funcs[37]? = some Tryz.f37 := by kernel_rfl
theorem q18set_n : (Tryz.f37.name == "runtime.NumGoroutine") = false := by kernel_rfl
theorem q18set_b : Tryz.f37.body.isNone = false := by kernel_rfl
theorem q18set_ex : ∃ fn, Tryz.prog.funcs[37]? = some fn ∧ (fn.name == "runtime.NumGoroutine") = false ∧ fn.body.isNone = false := ⟨Tryz.f37, q18set_f, q18set_n, q18set_b⟩
theorem q18set_hO : OracleOk E q18set_O := orac_ok (.cons rservice_ok (.cons rwith_ok (.cons r18done_ok (.cons q18texts_ok .nil)))) .nil .nil .nil
theorem q18set_s0 {res : List (TV E)} {v0 : List (List UInt8)} {v1 : Bool} {v2 : Int} {v3 : Int} {v4 : List UInt8} {v5 : List (List UInt8)} {v6 : List Node} {v7 : Int} {v8 : List UInt8} (h : q18set_t0 (Gr E Tryz.f37 res) v0 v1 v2 v3 v4 v5 v6 v7 v8 = some res) : Ev E Tryz.f37 res 0 (q18set_C0 v0 v1 v2 v3 v4 v5 v6 v7 v8) := Ev.step q18set_hO mix ((q18set_l0 _ v0 v1 v2 v3 v4 v5 v6 v7 v8).trans h)
theorem q18set_s1 {res : List (TV E)} {v0 : List (List UInt8)} {v1 : Bool} {v2 : Int} {v3 : Int} {v4 : List UInt8} {v5 : Int} {v6 : List UInt8} {v7 : List (List UInt8)} {v8 : List Node} (h : q18set_t1 (Gr E Tryz.f37 res) v0 v1 v2 v3 v4 v5 v6 v7 v8 = some res) : Ev E Tryz.f37 res 1 (q18set_C1 v0 v1 v2 v3 v4 v5 v6 v7 v8) := Ev.step q18set_hO mix ((q18set_l1 _ v0 v1 v2 v3 v4 v5 v6 v7 v8).trans h)
theorem q18set_ok_of (h : ∀ (x0 : Node), okRs x0 = true → q18set_t (Gr E Tryz.f37 [⟨.api_Node, rsetV x0⟩, ⟨.bool, rsetB x0⟩]) x0 = some [⟨.api_Node, rsetV x0⟩, ⟨.bool, rsetB x0⟩]) : FnOk E q18set_id q18set_W := fn12_ok q18set_hO mix q18set_f q18set_n q18set_b (fun x0 hk => (q18set_e _ x0).trans (h x0 hk))
theorem q18set_1 (l : List (List UInt8)) (hl : l.length ≤ 1000) (u : Int) (t : List UInt8) : ∀ (m i : Nat) (b : Bool) (o : Node), l.length - i = m → i ≤ l.length → Bq leafK 1 i o →
    Ev E Tryz.f37 [⟨.api_Node, doneV (rs1 (nameV badS) (l.drop i) b o).1 (rs1 (nameV badS) (l.drop i) b o).2⟩, ⟨.bool, doneB (rs1 (nameV badS) (l.drop i) b o).1 (rs1 (nameV badS) (l.drop i) b o).2⟩] 1 (q18set_C1 l b i u t o.kind o.text o.keys o.kids) := by
  intro m
  induction m with
  | zero =>
    intro i b o h1 h2 h3
    refine q18set_s1 ?_
    simp only [q18set_t1, dge (show l.length ≤ i by omega), cond_false, node_eta, List.drop_eq_nil_of_le (show l.length ≤ i by omega), rs1, h3.done_ok (by decide) b, cond_true]
  | succ m ih =>
    intro i b o h1 h2 h3
    have hi : i < l.length := by omega
    have e1 : w64 ((i : Int) + 1) = ((i + 1 : Nat) : Int) := by rw [w64_id (by omega) (by omega)]; omega
    refine q18set_s1 ?_
    rw [← List.getElem_cons_drop hi]
    simp only [q18set_t1, dlt hi, d0, Bool.and_self, cond_true, gd l _ i hi, node_eta, h3.ok (by omega), e1, rs1]
    cases b with
    | false => simp only [cond_false, h3.done_ok (by decide) false, cond_true]
    | true => exact Gr_of (ih (i + 1) _ _ (by omega) (by omega) (h3.put (zn_leaf _) (zn_wg 0)))
theorem q18set_0 (n : Node) (hn : n.kids.length ≤ 1000) (l : List (List UInt8)) (hl : l.length ≤ 1000) (u3 : Int) (u4 : List UInt8) (ks : List (List UInt8)) (u : Int) (t : List UInt8) : ∀ (m i : Nat) (b : Bool), n.kids.length - i = m → i ≤ n.kids.length →
    Ev E Tryz.f37 [⟨.api_Node, doneV (rs1 (nameV badS) l (b && !((n.kids.drop i).any badKid)) zn).1 (rs1 (nameV badS) l (b && !((n.kids.drop i).any badKid)) zn).2⟩, ⟨.bool, doneB (rs1 (nameV badS) l (b && !((n.kids.drop i).any badKid)) zn).1 (rs1 (nameV badS) l (b && !((n.kids.drop i).any badKid)) zn).2⟩] 0 (q18set_C0 l b i u3 u4 ks n.kids u t) := by
  intro m
  induction m with
  | zero =>
    intro i b h1 h2
    refine q18set_s0 ?_
    simp only [q18set_t0, dge (show n.kids.length ≤ i by omega), cond_false, List.drop_eq_nil_of_le (show n.kids.length ≤ i by omega), List.any_nil, Bool.not_false, Bool.and_true]
    have := Gr_of (q18set_1 l hl u t _ 0 b ⟨0, [], [], []⟩ rfl (Nat.zero_le _) (Bq.nil (.inl rfl)))
    rw [List.drop_zero] at this
    exact this
  | succ m ih =>
    intro i b h1 h2
    have hi : i < n.kids.length := by omega
    have e1 : w64 ((i : Int) + 1) = ((i + 1 : Nat) : Int) := by rw [w64_id (by omega) (by omega)]; omega
    refine q18set_s0 ?_
    rw [← List.getElem_cons_drop hi]
    simp only [q18set_t0, dlt hi, d0, Bool.and_self, Bool.true_or, cond_true, gd n.kids _ i hi, e1, List.any_cons]
    change (bif badKid n.kids[i] then _ else _) = _
    cases hb : badKid n.kids[i] with
    | true =>
      have := Gr_of (ih (i + 1) false (by omega) (by omega))
      simp only [Bool.false_and] at this
      simp only [Bool.true_or, Bool.not_true, Bool.and_false, cond_true]
      exact this
    | false =>
      have := Gr_of (ih (i + 1) b (by omega) (by omega))
      simp only [Bool.false_or, cond_false]
      exact this
theorem q18set_ok : FnOk E q18set_id q18set_W := q18set_ok_of fun n hk => by
  simp only [okRs, Bool.and_eq_true, decide_eq_true_eq] at hk
  obtain ⟨h1, h2⟩ := hk
  simp only [q18set_t, node_eta]
  unfold rsetV rsetB rsP
  change (bif rs0 n then _ else _) = _
  cases rs0 n with
  | true =>
    have := Gr_of (q18set_0 n h2 n.keys h1 n.kind n.text n.keys 0 [] _ 0 true rfl (Nat.zero_le _))
    rw [List.drop_zero] at this
    simp only [Bool.true_and] at this
    exact this
  | false =>
    have := Gr_of (q18set_1 (rtxL n) (Nat.le_trans (rtxL_len n) h2) 0 [] _ 0 (rtxB n) ⟨0, [], [], []⟩ rfl (Nat.zero_le _) (Bq.nil (.inl rfl)))
    rw [List.drop_zero] at this
    exact this
end Go.Proofs.YtpmknebhacaocaaGreatDoor.Rf