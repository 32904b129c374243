/- The reference's edges, and what is extended, exactly. -/
import Derived.Test.YtpmknebhacaocaaGreatDoorE1x
namespace Go.Proofs.YtpmknebhacaocaaGreatDoor.Rf
open Go Go.RowKit Go.Sort Go.Proofs.YtpmknebhacaocaaGreatDoor.Mir
/-! ### The reference's fields of a map, edges, and what is extended (18), exactly -/
def onlB (n : Node) (l : List (List UInt8)) : Bool := bif n.kind != 3 then false else n.keys.all fun k => inV l k
def okOn (n : Node) (l : List (List UInt8)) : Bool := ln6 n.keys && ln6 l
noncomputable def q18only_W : FnW E := fn2 (E := E) .api_Node .l_str .bool okOn onlB
def q18only_id : FuncId := 99
noncomputable def q18only_O : Oracle E := orac [(91, rin_W)] [] [] []
noncomputable def q18only_H : Hint E := Hint.mk [(0, [1, 2, 5])] [] [] [] []
noncomputable def q18only_C0 (v0 : List (List UInt8)) (v1 v2 : Int) (v3 : List UInt8) (v4 : List (List UInt8)) (v5 : List Node) : ASt E := ASt.mk 24 [(1, .d (.slice .str v0)), (2, .ptr 0 0), (5, .d (.int .i64 v1))] [(0, .box [.d (.int .i64 v2), .d (.str v3), .d (.slice .str v4), .d (.slice .api_Node v5)])] 1
noncomputable def q18only_t (G : Nat → ASt E → Option (List (TV E))) (x0 : Node) (x1 : List (List UInt8)) : Option (List (TV E)) :=
  bif (x0.kind != (3 : Int)) then some [⟨.bool, false⟩] else G 0 (q18only_C0 x1 (0 : Int) x0.kind x0.text x0.keys x0.kids)
theorem q18only_e (G : Nat → ASt E → Option (List (TV E))) (x0 : Node) (x1 : List (List UInt8)) : runE q18only_O q18only_H G Tryz.f99 [⟨.api_Node, x0⟩, ⟨.l_str, x1⟩] = q18only_t G x0 x1 := by kernel_rfl
noncomputable def q18only_t0 (G : Nat → ASt E → Option (List (TV E))) (v0 : List (List UInt8)) (v1 v2 : Int) (v3 : List UInt8) (v4 : List (List UInt8)) (v5 : List Node) : Option (List (TV E)) :=
  bif (decide (v1 < (v4.length : Int))) then (bif (decide ((0 : Int) ≤ v1) && decide (v1 < (v4.length : Int))) then (bif ((fun l _ => ln6 l) v0 (List.getD v4 (Int.toNat v1) (dflt .str))) then (bif (!(inV v0 (List.getD v4 (Int.toNat v1) (dflt .str)))) then some [⟨.bool, false⟩] else G 0 (q18only_C0 v0 (w64 (v1 + (1 : Int))) v2 v3 v4 v5)) else none) else none) else some [⟨.bool, true⟩]
theorem q18only_l0 (G : Nat → ASt E → Option (List (TV E))) (v0 : List (List UInt8)) (v1 v2 : Int) (v3 : List UInt8) (v4 : List (List UInt8)) (v5 : List Node) : runL q18only_O q18only_H G Tryz.f99 0 (q18only_C0 v0 v1 v2 v3 v4 v5) = q18only_t0 G v0 v1 v2 v3 v4 v5 := by kernel_rfl
theorem q18only_f : Tryz.prog.funcs[99]? = some Tryz.f99 := by kernel_rfl
theorem q18only_n : (Tryz.f99.name == "runtime.NumGoroutine") = false := by kernel_rfl
theorem q18only_b : Tryz.f99.body.isNone = false := by kernel_rfl
theorem q18only_ex : ∃ fn, Tryz.prog.funcs[99]? = some fn ∧ (fn.name == "runtime.NumGoroutine") = false ∧ fn.body.isNone = false := ⟨Tryz.f99, q18only_f, q18only_n, q18only_b⟩
theorem q18only_hO : OracleOk E q18only_O := orac_ok (.cons rin_ok .nil) .nil .nil .nil
theorem q18only_s0 {res : List (TV E)} {v0 : List (List UInt8)} {v1 v2 : Int} {v3 : List UInt8} {v4 : List (List UInt8)} {v5 : List Node} (h : q18only_t0 (Gr E Tryz.f99 res) v0 v1 v2 v3 v4 v5 = some res) : Ev E Tryz.f99 res 0 (q18only_C0 v0 v1 v2 v3 v4 v5) := Ev.step q18only_hO mix ((q18only_l0 _ v0 v1 v2 v3 v4 v5).trans h)
theorem q18only_ok_of (h : ∀ (x0 : Node) (x1 : List (List UInt8)), okOn x0 x1 = true → q18only_t (Gr E Tryz.f99 [⟨.bool, onlB x0 x1⟩]) x0 x1 = some [⟨.bool, onlB x0 x1⟩]) : FnOk E q18only_id q18only_W := fn2_ok q18only_hO mix q18only_f q18only_n q18only_b (fun x0 x1 hk => (q18only_e _ x0 x1).trans (h x0 x1 hk))
theorem q18only_0 (l : List (List UInt8)) (hl : ln6 l = true) (ks : List (List UInt8)) (hk : ks.length ≤ 1000000) (u : Int) (t : List UInt8) (vs : List Node) : ∀ (m i : Nat), ks.length - i = m → i ≤ ks.length → 
    Ev E Tryz.f99 [⟨.bool, (ks.drop i).all fun k => inV l k⟩] 0 (q18only_C0 l i u t ks vs) := by
  intro m
  induction m with
  | zero =>
    intro i  h1 h2
    refine q18only_s0 ?_
    simp only [q18only_t0, dge (show ks.length ≤ i by omega), cond_false, List.drop_eq_nil_of_le (show ks.length ≤ i by omega)]
    rfl
  | succ m ih2 =>
    intro i  h1 h2
    have hi : i < ks.length := by omega
    have e3 : w64 ((i : Int) + 1) = ((i + 1 : Nat) : Int) := by rw [w64_id (by omega) (by omega)]; omega
    refine q18only_s0 ?_
    simp only [q18only_t0, dlt hi, d0, gd ks _ i hi, e3, Bool.and_self, Bool.true_or, cond_true, hl]
    rw [← List.getElem_cons_drop hi]
    rw [List.all_cons]
    cases inV l ks[i] with
    | false => rfl
    | true => exact Gr_of (ih2 (i + 1) (by omega) (by omega))
theorem q18only_ok : FnOk E q18only_id q18only_W := q18only_ok_of fun n l hk => by
  simp only [okOn, Bool.and_eq_true] at hk
  simp only [q18only_t]
  unfold onlB
  by_cases h3 : n.kind = 3
  · rw [neF h3]
    exact Gr_of (q18only_0 l hk.2 n.keys (ln6_iff.1 hk.1) n.kind n.text n.kids _ 0 rfl (Nat.zero_le _))
  · rw [neT h3]; rfl
def okFl (n : Node) (_ _ : List UInt8) : Bool := fit n
noncomputable def q18field_W : FnW E := fn32 (E := E) .api_Node .str .str .str .bool okFl fldV fldB
def q18field_id : FuncId := 100
noncomputable def q18field_O : Oracle E := orac [(102, rget_W)] [] [] []
noncomputable def q18field_H : Hint E := Hint.mk [] [] [] [] []
noncomputable def q18field_t (_G : Nat → ASt E → Option (List (TV E))) (x0 : Node) (x1 x2 : List UInt8) : Option (List (TV E)) :=
  bif ((fun n _ => fit n) (⟨x0.kind, x0.text, x0.keys, x0.kids⟩ : Node) x1) then (bif (!(getB (⟨x0.kind, x0.text, x0.keys, x0.kids⟩ : Node) x1)) then some [⟨.str, x2⟩, ⟨.bool, true⟩] else some [⟨.str, (getV (⟨x0.kind, x0.text, x0.keys, x0.kids⟩ : Node) x1).text⟩, ⟨.bool, ((getV (⟨x0.kind, x0.text, x0.keys, x0.kids⟩ : Node) x1).kind == (1 : Int))⟩]) else none
theorem q18field_e (G : Nat → ASt E → Option (List (TV E))) (x0 : Node) (x1 : List UInt8) (x2 : List UInt8) : runE q18field_O q18field_H G Tryz.f100 [⟨.api_Node, x0⟩, ⟨.str, x1⟩, ⟨.str, x2⟩] = q18field_t G x0 x1 x2 := by kernel_rfl
theorem q18field_f : Tryz.prog.funcs[100]? = some Tryz.f100 := by kernel_rfl
theorem q18field_n : (Tryz.f100.name == "runtime.NumGoroutine") = false := by kernel_rfl
theorem q18field_b : Tryz.f100.body.isNone = false := by kernel_rfl
theorem q18field_ex : ∃ fn, Tryz.prog.funcs[100]? = some fn ∧ (fn.name == "runtime.NumGoroutine") = false ∧ fn.body.isNone = false := ⟨Tryz.f100, q18field_f, q18field_n, q18field_b⟩
theorem q18field_hO : OracleOk E q18field_O := orac_ok (.cons rget_ok .nil) .nil .nil .nil
theorem q18field_ok_of (h : ∀ (x0 : Node) (x1 : List UInt8) (x2 : List UInt8), okFl x0 x1 x2 = true → q18field_t (Gr E Tryz.f100 [⟨.str, fldV x0 x1 x2⟩, ⟨.bool, fldB x0 x1 x2⟩]) x0 x1 x2 = some [⟨.str, fldV x0 x1 x2⟩, ⟨.bool, fldB x0 x1 x2⟩]) : FnOk E q18field_id q18field_W := fn32_ok q18field_hO mix q18field_f q18field_n q18field_b (fun x0 x1 x2 hk => (q18field_e _ x0 x1 x2).trans (h x0 x1 x2 hk))
theorem q18field_ok : FnOk E q18field_id q18field_W := q18field_ok_of fun n k o hk => by
  have hk : fit n = true := hk
  simp only [q18field_t, node_eta, hk, cond_true, fldV, fldB]
  cases getB n k <;> rfl
def truB (n : Node) (k o : List UInt8) : Bool := bif fldB n k o then (bif fldV n k o == [116, 114, 117, 101] then true else fldV n k o == [102, 97, 108, 115, 101]) else false
noncomputable def q18truth_W : FnW E := fn32 (E := E) .api_Node .str .str .str .bool okFl fldV truB
def q18truth_id : FuncId := 101
noncomputable def q18truth_O : Oracle E := orac [(100, q18field_W)] [] [] []
noncomputable def q18truth_H : Hint E := Hint.mk [] [] [] [] []
noncomputable def q18truth_t (_G : Nat → ASt E → Option (List (TV E))) (x0 : Node) (x1 x2 : List UInt8) : Option (List (TV E)) :=
  bif (okFl (⟨x0.kind, x0.text, x0.keys, x0.kids⟩ : Node) x1 x2) then some [⟨.str, (fldV (⟨x0.kind, x0.text, x0.keys, x0.kids⟩ : Node) x1 x2)⟩, ⟨.bool, (bif (fldB (⟨x0.kind, x0.text, x0.keys, x0.kids⟩ : Node) x1 x2) then (bif ((fldV (⟨x0.kind, x0.text, x0.keys, x0.kids⟩ : Node) x1 x2) == ([116, 114, 117, 101] : List UInt8)) then true else ((fldV (⟨x0.kind, x0.text, x0.keys, x0.kids⟩ : Node) x1 x2) == ([102, 97, 108, 115, 101] : List UInt8))) else false)⟩] else none
theorem q18truth_e (G : Nat → ASt E → Option (List (TV E))) (x0 : Node) (x1 : List UInt8) (x2 : List UInt8) : runE q18truth_O q18truth_H G Tryz.f101 [⟨.api_Node, x0⟩, ⟨.str, x1⟩, ⟨.str, x2⟩] = q18truth_t G x0 x1 x2 := by kernel_rfl
theorem q18truth_f : Tryz.prog.funcs[101]? = some Tryz.f101 := by kernel_rfl
theorem q18truth_n : (Tryz.f101.name == "runtime.NumGoroutine") = false := by kernel_rfl
theorem q18truth_b : Tryz.f101.body.isNone = false := by kernel_rfl
theorem q18truth_ex : ∃ fn, Tryz.prog.funcs[101]? = some fn ∧ (fn.name == "runtime.NumGoroutine") = false ∧ fn.body.isNone = false := ⟨Tryz.f101, q18truth_f, q18truth_n, q18truth_b⟩
theorem q18truth_hO : OracleOk E q18truth_O := orac_ok (.cons q18field_ok .nil) .nil .nil .nil
theorem q18truth_ok_of (h : ∀ (x0 : Node) (x1 : List UInt8) (x2 : List UInt8), okFl x0 x1 x2 = true → q18truth_t (Gr E Tryz.f101 [⟨.str, fldV x0 x1 x2⟩, ⟨.bool, truB x0 x1 x2⟩]) x0 x1 x2 = some [⟨.str, fldV x0 x1 x2⟩, ⟨.bool, truB x0 x1 x2⟩]) : FnOk E q18truth_id q18truth_W := fn32_ok q18truth_hO mix q18truth_f q18truth_n q18truth_b (fun x0 x1 x2 hk => (q18truth_e _ x0 x1 x2).trans (h x0 x1 x2 hk))
theorem q18truth_ok : FnOk E q18truth_id q18truth_W := q18truth_ok_of fun n k o hk => by
  simp only [q18truth_t, node_eta, hk, cond_true]
  rfl
def redV (n : Node) : Node := bif onlB (em n) [cK, sK, rK] then ⟨3, [], [cK, rK, sK], [txtN (fldV (em n) cK stdS), txtN (fldV (em n) rK tru), txtN (fldV (em n) sK fls)]⟩ else zn
def redB (n : Node) : Bool := bif onlB (em n) [cK, sK, rK] then (bif (bif (bif fldB (em n) cK stdS then truB (em n) sK fls else false) then truB (em n) rK tru else false) then (bif (bif fldV (em n) cK stdS == stdS then true else fldV (em n) cK stdS == hltS) then true else fldV (em n) cK stdS == cmpS) else false) else false
def okRe (n : Node) : Bool := fit n
noncomputable def q18edge_W : FnW E := fn12 (E := E) .api_Node .api_Node .bool okRe redV redB
def q18edge_id : FuncId := 98
noncomputable def q18edge_O : Oracle E := orac [(85, r18text_W), (100, q18field_W), (99, q18only_W), (101, q18truth_W)] [] [] []
noncomputable def q18edge_H : Hint E := Hint.mk [] [] [] [] []
noncomputable def q18edge_t (_G : Nat → ASt E → Option (List (TV E))) (x0 : Node) : Option (List (TV E)) :=
  bif (x0.kind == (0 : Int)) then (bif (okOn (⟨(3 : Int), ([] : List UInt8), ([] : List (List UInt8)), ([] : List Node)⟩ : Node) ([([99, 111, 110, 100, 105, 116, 105, 111, 110] : List UInt8), ([114, 101, 115, 116, 97, 114, 116] : List UInt8), ([114, 101, 113, 117, 105, 114, 101, 100] : List UInt8)] : List (List UInt8))) then (bif (!(onlB (⟨(3 : Int), ([] : List UInt8), ([] : List (List UInt8)), ([] : List Node)⟩ : Node) ([([99, 111, 110, 100, 105, 116, 105, 111, 110] : List UInt8), ([114, 101, 115, 116, 97, 114, 116] : List UInt8), ([114, 101, 113, 117, 105, 114, 101, 100] : List UInt8)] : List (List UInt8)))) then some [⟨.api_Node, (⟨(0 : Int), ([] : List UInt8), ([] : List (List UInt8)), ([] : List Node)⟩ : Node)⟩, ⟨.bool, false⟩] else (bif (okFl (⟨(3 : Int), ([] : List UInt8), ([] : List (List UInt8)), ([] : List Node)⟩ : Node) ([99, 111, 110, 100, 105, 116, 105, 111, 110] : List UInt8) ([115, 101, 114, 118, 105, 99, 101, 95, 115, 116, 97, 114, 116, 101, 100] : List UInt8)) then (bif (okFl (⟨(3 : Int), ([] : List UInt8), ([] : List (List UInt8)), ([] : List Node)⟩ : Node) ([114, 101, 115, 116, 97, 114, 116] : List UInt8) ([102, 97, 108, 115, 101] : List UInt8)) then (bif (okFl (⟨(3 : Int), ([] : List UInt8), ([] : List (List UInt8)), ([] : List Node)⟩ : Node) ([114, 101, 113, 117, 105, 114, 101, 100] : List UInt8) ([116, 114, 117, 101] : List UInt8)) then some [⟨.api_Node, (⟨(3 : Int), ([] : List UInt8), ([([99, 111, 110, 100, 105, 116, 105, 111, 110] : List UInt8), ([114, 101, 113, 117, 105, 114, 101, 100] : List UInt8), ([114, 101, 115, 116, 97, 114, 116] : List UInt8)] : List (List UInt8)), ([(txtN (fldV (⟨(3 : Int), ([] : List UInt8), ([] : List (List UInt8)), ([] : List Node)⟩ : Node) ([99, 111, 110, 100, 105, 116, 105, 111, 110] : List UInt8) ([115, 101, 114, 118, 105, 99, 101, 95, 115, 116, 97, 114, 116, 101, 100] : List UInt8))), (txtN (fldV (⟨(3 : Int), ([] : List UInt8), ([] : List (List UInt8)), ([] : List Node)⟩ : Node) ([114, 101, 113, 117, 105, 114, 101, 100] : List UInt8) ([116, 114, 117, 101] : List UInt8))), (txtN (fldV (⟨(3 : Int), ([] : List UInt8), ([] : List (List UInt8)), ([] : List Node)⟩ : Node) ([114, 101, 115, 116, 97, 114, 116] : List UInt8) ([102, 97, 108, 115, 101] : List UInt8)))] : List Node)⟩ : Node)⟩, ⟨.bool, (bif (bif (bif (fldB (⟨(3 : Int), ([] : List UInt8), ([] : List (List UInt8)), ([] : List Node)⟩ : Node) ([99, 111, 110, 100, 105, 116, 105, 111, 110] : List UInt8) ([115, 101, 114, 118, 105, 99, 101, 95, 115, 116, 97, 114, 116, 101, 100] : List UInt8)) then (truB (⟨(3 : Int), ([] : List UInt8), ([] : List (List UInt8)), ([] : List Node)⟩ : Node) ([114, 101, 115, 116, 97, 114, 116] : List UInt8) ([102, 97, 108, 115, 101] : List UInt8)) else false) then (truB (⟨(3 : Int), ([] : List UInt8), ([] : List (List UInt8)), ([] : List Node)⟩ : Node) ([114, 101, 113, 117, 105, 114, 101, 100] : List UInt8) ([116, 114, 117, 101] : List UInt8)) else false) then (bif (bif ((fldV (⟨(3 : Int), ([] : List UInt8), ([] : List (List UInt8)), ([] : List Node)⟩ : Node) ([99, 111, 110, 100, 105, 116, 105, 111, 110] : List UInt8) ([115, 101, 114, 118, 105, 99, 101, 95, 115, 116, 97, 114, 116, 101, 100] : List UInt8)) == ([115, 101, 114, 118, 105, 99, 101, 95, 115, 116, 97, 114, 116, 101, 100] : List UInt8)) then true else ((fldV (⟨(3 : Int), ([] : List UInt8), ([] : List (List UInt8)), ([] : List Node)⟩ : Node) ([99, 111, 110, 100, 105, 116, 105, 111, 110] : List UInt8) ([115, 101, 114, 118, 105, 99, 101, 95, 115, 116, 97, 114, 116, 101, 100] : List UInt8)) == ([115, 101, 114, 118, 105, 99, 101, 95, 104, 101, 97, 108, 116, 104, 121] : List UInt8))) then true else ((fldV (⟨(3 : Int), ([] : List UInt8), ([] : List (List UInt8)), ([] : List Node)⟩ : Node) ([99, 111, 110, 100, 105, 116, 105, 111, 110] : List UInt8) ([115, 101, 114, 118, 105, 99, 101, 95, 115, 116, 97, 114, 116, 101, 100] : List UInt8)) == ([115, 101, 114, 118, 105, 99, 101, 95, 99, 111, 109, 112, 108, 101, 116, 101, 100, 95, 115, 117, 99, 99, 101, 115, 115, 102, 117, 108, 108, 121] : List UInt8))) else false)⟩] else none) else none) else none)) else none) else (bif (okOn (⟨x0.kind, x0.text, x0.keys, x0.kids⟩ : Node) ([([99, 111, 110, 100, 105, 116, 105, 111, 110] : List UInt8), ([114, 101, 115, 116, 97, 114, 116] : List UInt8), ([114, 101, 113, 117, 105, 114, 101, 100] : List UInt8)] : List (List UInt8))) then (bif (!(onlB (⟨x0.kind, x0.text, x0.keys, x0.kids⟩ : Node) ([([99, 111, 110, 100, 105, 116, 105, 111, 110] : List UInt8), ([114, 101, 115, 116, 97, 114, 116] : List UInt8), ([114, 101, 113, 117, 105, 114, 101, 100] : List UInt8)] : List (List UInt8)))) then some [⟨.api_Node, (⟨(0 : Int), ([] : List UInt8), ([] : List (List UInt8)), ([] : List Node)⟩ : Node)⟩, ⟨.bool, false⟩] else (bif (okFl (⟨x0.kind, x0.text, x0.keys, x0.kids⟩ : Node) ([99, 111, 110, 100, 105, 116, 105, 111, 110] : List UInt8) ([115, 101, 114, 118, 105, 99, 101, 95, 115, 116, 97, 114, 116, 101, 100] : List UInt8)) then (bif (okFl (⟨x0.kind, x0.text, x0.keys, x0.kids⟩ : Node) ([114, 101, 115, 116, 97, 114, 116] : List UInt8) ([102, 97, 108, 115, 101] : List UInt8)) then (bif (okFl (⟨x0.kind, x0.text, x0.keys, x0.kids⟩ : Node) ([114, 101, 113, 117, 105, 114, 101, 100] : List UInt8) ([116, 114, 117, 101] : List UInt8)) then some [⟨.api_Node, (⟨(3 : Int), ([] : List UInt8), ([([99, 111, 110, 100, 105, 116, 105, 111, 110] : List UInt8), ([114, 101, 113, 117, 105, 114, 101, 100] : List UInt8), ([114, 101, 115, 116, 97, 114, 116] : List UInt8)] : List (List UInt8)), ([(txtN (fldV (⟨x0.kind, x0.text, x0.keys, x0.kids⟩ : Node) ([99, 111, 110, 100, 105, 116, 105, 111, 110] : List UInt8) ([115, 101, 114, 118, 105, 99, 101, 95, 115, 116, 97, 114, 116, 101, 100] : List UInt8))), (txtN (fldV (⟨x0.kind, x0.text, x0.keys, x0.kids⟩ : Node) ([114, 101, 113, 117, 105, 114, 101, 100] : List UInt8) ([116, 114, 117, 101] : List UInt8))), (txtN (fldV (⟨x0.kind, x0.text, x0.keys, x0.kids⟩ : Node) ([114, 101, 115, 116, 97, 114, 116] : List UInt8) ([102, 97, 108, 115, 101] : List UInt8)))] : List Node)⟩ : Node)⟩, ⟨.bool, (bif (bif (bif (fldB (⟨x0.kind, x0.text, x0.keys, x0.kids⟩ : Node) ([99, 111, 110, 100, 105, 116, 105, 111, 110] : List UInt8) ([115, 101, 114, 118, 105, 99, 101, 95, 115, 116, 97, 114, 116, 101, 100] : List UInt8)) then (truB (⟨x0.kind, x0.text, x0.keys, x0.kids⟩ : Node) ([114, 101, 115, 116, 97, 114, 116] : List UInt8) ([102, 97, 108, 115, 101] : List UInt8)) else false) then (truB (⟨x0.kind, x0.text, x0.keys, x0.kids⟩ : Node) ([114, 101, 113, 117, 105, 114, 101, 100] : List UInt8) ([116, 114, 117, 101] : List UInt8)) else false) then (bif (bif ((fldV (⟨x0.kind, x0.text, x0.keys, x0.kids⟩ : Node) ([99, 111, 110, 100, 105, 116, 105, 111, 110] : List UInt8) ([115, 101, 114, 118, 105, 99, 101, 95, 115, 116, 97, 114, 116, 101, 100] : List UInt8)) == ([115, 101, 114, 118, 105, 99, 101, 95, 115, 116, 97, 114, 116, 101, 100] : List UInt8)) then true else ((fldV (⟨x0.kind, x0.text, x0.keys, x0.kids⟩ : Node) ([99, 111, 110, 100, 105, 116, 105, 111, 110] : List UInt8) ([115, 101, 114, 118, 105, 99, 101, 95, 115, 116, 97, 114, 116, 101, 100] : List UInt8)) == ([115, 101, 114, 118, 105, 99, 101, 95, 104, 101, 97, 108, 116, 104, 121] : List UInt8))) then true else ((fldV (⟨x0.kind, x0.text, x0.keys, x0.kids⟩ : Node) ([99, 111, 110, 100, 105, 116, 105, 111, 110] : List UInt8) ([115, 101, 114, 118, 105, 99, 101, 95, 115, 116, 97, 114, 116, 101, 100] : List UInt8)) == ([115, 101, 114, 118, 105, 99, 101, 95, 99, 111, 109, 112, 108, 101, 116, 101, 100, 95, 115, 117, 99, 99, 101, 115, 115, 102, 117, 108, 108, 121] : List UInt8))) else false)⟩] else none) else none) else none)) else none)
theorem q18edge_e (G : Nat → ASt E → Option (List (TV E))) (x0 : Node) : runE q18edge_O q18edge_H G Tryz.f98 [⟨.api_Node, x0⟩] = q18edge_t G x0 := by kernel_rfl
theorem q18edge_f : Tryz.prog.funcs[98]? = some Tryz.f98 := by kernel_rfl
theorem q18edge_n : (Tryz.f98.name == "runtime.NumGoroutine") = false := by kernel_rfl
theorem q18edge_b : Tryz.f98.body.isNone = false := by kernel_rfl
theorem q18edge_ex : ∃ fn, Tryz.prog.funcs[98]? = some fn ∧ (fn.name == "runtime.NumGoroutine") = false ∧ fn.body.isNone = false := ⟨Tryz.f98, q18edge_f, q18edge_n, q18edge_b⟩
theorem q18edge_hO : OracleOk E q18edge_O := orac_ok (.cons r18text_ok (.cons q18field_ok (.cons q18only_ok (.cons q18truth_ok .nil)))) .nil .nil .nil
theorem q18edge_ok_of (h : ∀ (x0 : Node), okRe x0 = true → q18edge_t (Gr E Tryz.f98 [⟨.api_Node, redV x0⟩, ⟨.bool, redB x0⟩]) x0 = some [⟨.api_Node, redV x0⟩, ⟨.bool, redB x0⟩]) : FnOk E q18edge_id q18edge_W := fn12_ok q18edge_hO mix q18edge_f q18edge_n q18edge_b (fun x0 hk => (q18edge_e _ x0).trans (h x0 hk))
theorem q18edge_ok : FnOk E q18edge_id q18edge_W := q18edge_ok_of fun n hk => by
  have hf : fit n = true := hk
  have hb := (fit_iff.1 hf).1.1
  have fin : ∀ m : Node, fit m = true → m = em n → ∀ (X : Option (List (TV E))), X = (bif okOn m [cK, sK, rK] then (bif !(onlB m [cK, sK, rK]) then some [⟨.api_Node, zn⟩, ⟨.bool, false⟩] else some [⟨.api_Node, (⟨3, [], [cK, rK, sK], [txtN (fldV m cK stdS), txtN (fldV m rK tru), txtN (fldV m sK fls)]⟩ : Node)⟩, ⟨.bool, (bif (bif (bif fldB m cK stdS then truB m sK fls else false) then truB m rK tru else false) then (bif (bif fldV m cK stdS == stdS then true else fldV m cK stdS == hltS) then true else fldV m cK stdS == cmpS) else false)⟩]) else none) → X = some [⟨.api_Node, redV n⟩, ⟨.bool, redB n⟩] := by
    intro m hm he X hX
    have ho : okOn m [cK, sK, rK] = true := by
      simp only [okOn, Bool.and_eq_true]
      exact ⟨ln6_iff.2 (fit_iff.1 hm).1.1, rfl⟩
    rw [hX, ho, cond_true]
    unfold redV redB
    rw [← he]
    cases onlB m [cK, sK, rK] <;> rfl
  by_cases h0 : n.kind = 0
  · have he : em n = ⟨3, [], [], []⟩ := by unfold em; rw [eqT h0]; rfl
    refine fin _ rfl he.symm _ ?_
    simp only [q18edge_t, eqT h0, cond_true, show ∀ k o, okFl (⟨3, [], [], []⟩ : Node) k o = true from fun _ _ => rfl]
    rfl
  · have he : em n = n := by unfold em; rw [eqF h0]; rfl
    refine fin _ hf he.symm _ ?_
    simp only [q18edge_t, eqF h0, cond_true, cond_false, node_eta, show ∀ k o, okFl n k o = true from fun _ _ => hf]
    rfl
/-! The fold of Deps -/
def rd (g : List UInt8 → Bool) : List (List UInt8) → List Node → Bool → Node → Node × Bool
  | s :: t, y :: r, b, o => bif b then rd g t r (bif redB y then g s else false) (withV o s (redV y)) else (o, false)
  | _, _, b, o => (o, b)
def rdK (n : Node) : List (List UInt8) := bif rs0 n then n.keys else rtxL n
def rdP (n : Node) : Node × Bool := rd (nameV badS) (rdK n) (dpN n (rdK n)) (bif rs0 n then true else rtxB n) zn
def rdpV (n : Node) : Node := doneV (rdP n).1 (rdP n).2
def rdpB (n : Node) : Bool := doneB (rdP n).1 (rdP n).2
def okRd (n : Node) : Bool := decide (n.kind = 3 → n.keys.length = n.kids.length) && decide (n.keys.length ≤ 1000) && decide (n.kids.length ≤ 1000) && n.kids.all fit
noncomputable def q18deps_W : FnW E := fn12 (E := E) .api_Node .api_Node .bool okRd rdpV rdpB
def q18deps_id : FuncId := 40
noncomputable def q18deps_O : Oracle E := orac [(94, rservice_W), (92, rwith_W), (93, r18done_W), (98, q18edge_W), (88, q18texts_W)] [] [] []
noncomputable def q18deps_H : Hint E := Hint.mk [(0, [1, 2, 4, 5, 6, 7])] [] [(0, [(6, some 2, false, .str), (6, some 3, false, .api_Node)])] [] []
noncomputable def q18deps_C0 (v0 : List (List UInt8)) (v1 : Bool) (v2 v3 : Int) (v4 : List UInt8) (v5 : List (List UInt8)) (v6 : List Node) (v7 : Int) (v8 : List UInt8) (v9 : Int) (v10 : List UInt8) (v11 : List (List UInt8)) (v12 : List Node) : ASt E := ASt.mk 71 [(1, .ptr 0 0), (2, .ptr 1 0), (4, .d (.slice .str v0)), (5, .d (.bool v1)), (6, .ptr 2 0), (7, .d (.int .i64 v2))] [(0, .box [.d (.int .i64 v3), .d (.str v4), .d (.slice .str v5), .d (.slice .api_Node v6)]), (1, .box [.d (.int .i64 v7), .d (.str v8), .d (.raw (.slice none 0 0)), .d (.raw (.slice none 0 0))]), (2, .box [.d (.int .i64 v9), .d (.str v10), .d (.slice .str v11), .d (.slice .api_Node v12)])] 3
noncomputable def q18deps_t (G : Nat → ASt E → Option (List (TV E))) (x0 : Node) : Option (List (TV E)) :=
  bif (bif (x0.kind == (3 : Int)) then (decide ((x0.keys.length : Int) ≤ (32 : Int))) else false) then G 0 (q18deps_C0 x0.keys true (0 : Int) x0.kind x0.text x0.keys x0.kids (0 : Int) ([] : List UInt8) (0 : Int) ([] : List UInt8) ([] : List (List UInt8)) ([] : List Node)) else G 0 (q18deps_C0 (rtxL (⟨x0.kind, x0.text, x0.keys, x0.kids⟩ : Node)) (rtxB (⟨x0.kind, x0.text, x0.keys, x0.kids⟩ : Node)) (0 : Int) x0.kind x0.text x0.keys x0.kids (0 : Int) ([] : List UInt8) (0 : Int) ([] : List UInt8) ([] : List (List UInt8)) ([] : List Node))
theorem q18deps_e (G : Nat → ASt E → Option (List (TV E))) (x0 : Node) : runE q18deps_O q18deps_H G Tryz.f40 [⟨.api_Node, x0⟩] = q18deps_t G x0 := by kernel_rfl
noncomputable def q18deps_t0 (G : Nat → ASt E → Option (List (TV E))) (v0 : List (List UInt8)) (v1 : Bool) (v2 v3 : Int) (v4 : List UInt8) (v5 : List (List UInt8)) (v6 : List Node) (v7 : Int) (v8 : List UInt8) (v9 : Int) (v10 : List UInt8) (v11 : List (List UInt8)) (v12 : List Node) : Option (List (TV E)) :=
  bif (bif (decide (v2 < (v0.length : Int))) then v1 else false) then (bif (v3 == (3 : Int)) then (bif (decide ((0 : Int) ≤ v2) && decide (v2 < (v6.length : Int))) then (bif (okRe (⟨(List.getD v6 (Int.toNat v2) (dflt .api_Node)).kind, (List.getD v6 (Int.toNat v2) (dflt .api_Node)).text, (List.getD v6 (Int.toNat v2) (dflt .api_Node)).keys, (List.getD v6 (Int.toNat v2) (dflt .api_Node)).kids⟩ : Node)) then (bif ((decide ((0 : Int) ≤ v2) && decide (v2 < (v0.length : Int))) || !(redB (⟨(List.getD v6 (Int.toNat v2) (dflt .api_Node)).kind, (List.getD v6 (Int.toNat v2) (dflt .api_Node)).text, (List.getD v6 (Int.toNat v2) (dflt .api_Node)).keys, (List.getD v6 (Int.toNat v2) (dflt .api_Node)).kids⟩ : Node))) then (bif (decide ((0 : Int) ≤ v2) && decide (v2 < (v0.length : Int))) then (bif (okWi (⟨v9, v10, v11, v12⟩ : Node) (List.getD v0 (Int.toNat v2) (dflt .str)) (⟨(redV (⟨(List.getD v6 (Int.toNat v2) (dflt .api_Node)).kind, (List.getD v6 (Int.toNat v2) (dflt .api_Node)).text, (List.getD v6 (Int.toNat v2) (dflt .api_Node)).keys, (List.getD v6 (Int.toNat v2) (dflt .api_Node)).kids⟩ : Node)).kind, (redV (⟨(List.getD v6 (Int.toNat v2) (dflt .api_Node)).kind, (List.getD v6 (Int.toNat v2) (dflt .api_Node)).text, (List.getD v6 (Int.toNat v2) (dflt .api_Node)).keys, (List.getD v6 (Int.toNat v2) (dflt .api_Node)).kids⟩ : Node)).text, (redV (⟨(List.getD v6 (Int.toNat v2) (dflt .api_Node)).kind, (List.getD v6 (Int.toNat v2) (dflt .api_Node)).text, (List.getD v6 (Int.toNat v2) (dflt .api_Node)).keys, (List.getD v6 (Int.toNat v2) (dflt .api_Node)).kids⟩ : Node)).keys, (redV (⟨(List.getD v6 (Int.toNat v2) (dflt .api_Node)).kind, (List.getD v6 (Int.toNat v2) (dflt .api_Node)).text, (List.getD v6 (Int.toNat v2) (dflt .api_Node)).keys, (List.getD v6 (Int.toNat v2) (dflt .api_Node)).kids⟩ : Node)).kids⟩ : Node)) then G 0 (q18deps_C0 v0 (bif (redB (⟨(List.getD v6 (Int.toNat v2) (dflt .api_Node)).kind, (List.getD v6 (Int.toNat v2) (dflt .api_Node)).text, (List.getD v6 (Int.toNat v2) (dflt .api_Node)).keys, (List.getD v6 (Int.toNat v2) (dflt .api_Node)).kids⟩ : Node)) then ((nameV badS) (List.getD v0 (Int.toNat v2) (dflt .str))) else false) (w64 (v2 + (1 : Int))) v3 v4 v5 v6 v7 v8 ((withV (⟨v9, v10, v11, v12⟩ : Node) (List.getD v0 (Int.toNat v2) (dflt .str)) (⟨(redV (⟨(List.getD v6 (Int.toNat v2) (dflt .api_Node)).kind, (List.getD v6 (Int.toNat v2) (dflt .api_Node)).text, (List.getD v6 (Int.toNat v2) (dflt .api_Node)).keys, (List.getD v6 (Int.toNat v2) (dflt .api_Node)).kids⟩ : Node)).kind, (redV (⟨(List.getD v6 (Int.toNat v2) (dflt .api_Node)).kind, (List.getD v6 (Int.toNat v2) (dflt .api_Node)).text, (List.getD v6 (Int.toNat v2) (dflt .api_Node)).keys, (List.getD v6 (Int.toNat v2) (dflt .api_Node)).kids⟩ : Node)).text, (redV (⟨(List.getD v6 (Int.toNat v2) (dflt .api_Node)).kind, (List.getD v6 (Int.toNat v2) (dflt .api_Node)).text, (List.getD v6 (Int.toNat v2) (dflt .api_Node)).keys, (List.getD v6 (Int.toNat v2) (dflt .api_Node)).kids⟩ : Node)).keys, (redV (⟨(List.getD v6 (Int.toNat v2) (dflt .api_Node)).kind, (List.getD v6 (Int.toNat v2) (dflt .api_Node)).text, (List.getD v6 (Int.toNat v2) (dflt .api_Node)).keys, (List.getD v6 (Int.toNat v2) (dflt .api_Node)).kids⟩ : Node)).kids⟩ : Node)).kind) ((withV (⟨v9, v10, v11, v12⟩ : Node) (List.getD v0 (Int.toNat v2) (dflt .str)) (⟨(redV (⟨(List.getD v6 (Int.toNat v2) (dflt .api_Node)).kind, (List.getD v6 (Int.toNat v2) (dflt .api_Node)).text, (List.getD v6 (Int.toNat v2) (dflt .api_Node)).keys, (List.getD v6 (Int.toNat v2) (dflt .api_Node)).kids⟩ : Node)).kind, (redV (⟨(List.getD v6 (Int.toNat v2) (dflt .api_Node)).kind, (List.getD v6 (Int.toNat v2) (dflt .api_Node)).text, (List.getD v6 (Int.toNat v2) (dflt .api_Node)).keys, (List.getD v6 (Int.toNat v2) (dflt .api_Node)).kids⟩ : Node)).text, (redV (⟨(List.getD v6 (Int.toNat v2) (dflt .api_Node)).kind, (List.getD v6 (Int.toNat v2) (dflt .api_Node)).text, (List.getD v6 (Int.toNat v2) (dflt .api_Node)).keys, (List.getD v6 (Int.toNat v2) (dflt .api_Node)).kids⟩ : Node)).keys, (redV (⟨(List.getD v6 (Int.toNat v2) (dflt .api_Node)).kind, (List.getD v6 (Int.toNat v2) (dflt .api_Node)).text, (List.getD v6 (Int.toNat v2) (dflt .api_Node)).keys, (List.getD v6 (Int.toNat v2) (dflt .api_Node)).kids⟩ : Node)).kids⟩ : Node)).text) ((withV (⟨v9, v10, v11, v12⟩ : Node) (List.getD v0 (Int.toNat v2) (dflt .str)) (⟨(redV (⟨(List.getD v6 (Int.toNat v2) (dflt .api_Node)).kind, (List.getD v6 (Int.toNat v2) (dflt .api_Node)).text, (List.getD v6 (Int.toNat v2) (dflt .api_Node)).keys, (List.getD v6 (Int.toNat v2) (dflt .api_Node)).kids⟩ : Node)).kind, (redV (⟨(List.getD v6 (Int.toNat v2) (dflt .api_Node)).kind, (List.getD v6 (Int.toNat v2) (dflt .api_Node)).text, (List.getD v6 (Int.toNat v2) (dflt .api_Node)).keys, (List.getD v6 (Int.toNat v2) (dflt .api_Node)).kids⟩ : Node)).text, (redV (⟨(List.getD v6 (Int.toNat v2) (dflt .api_Node)).kind, (List.getD v6 (Int.toNat v2) (dflt .api_Node)).text, (List.getD v6 (Int.toNat v2) (dflt .api_Node)).keys, (List.getD v6 (Int.toNat v2) (dflt .api_Node)).kids⟩ : Node)).keys, (redV (⟨(List.getD v6 (Int.toNat v2) (dflt .api_Node)).kind, (List.getD v6 (Int.toNat v2) (dflt .api_Node)).text, (List.getD v6 (Int.toNat v2) (dflt .api_Node)).keys, (List.getD v6 (Int.toNat v2) (dflt .api_Node)).kids⟩ : Node)).kids⟩ : Node)).keys) ((withV (⟨v9, v10, v11, v12⟩ : Node) (List.getD v0 (Int.toNat v2) (dflt .str)) (⟨(redV (⟨(List.getD v6 (Int.toNat v2) (dflt .api_Node)).kind, (List.getD v6 (Int.toNat v2) (dflt .api_Node)).text, (List.getD v6 (Int.toNat v2) (dflt .api_Node)).keys, (List.getD v6 (Int.toNat v2) (dflt .api_Node)).kids⟩ : Node)).kind, (redV (⟨(List.getD v6 (Int.toNat v2) (dflt .api_Node)).kind, (List.getD v6 (Int.toNat v2) (dflt .api_Node)).text, (List.getD v6 (Int.toNat v2) (dflt .api_Node)).keys, (List.getD v6 (Int.toNat v2) (dflt .api_Node)).kids⟩ : Node)).text, (redV (⟨(List.getD v6 (Int.toNat v2) (dflt .api_Node)).kind, (List.getD v6 (Int.toNat v2) (dflt .api_Node)).text, (List.getD v6 (Int.toNat v2) (dflt .api_Node)).keys, (List.getD v6 (Int.toNat v2) (dflt .api_Node)).kids⟩ : Node)).keys, (redV (⟨(List.getD v6 (Int.toNat v2) (dflt .api_Node)).kind, (List.getD v6 (Int.toNat v2) (dflt .api_Node)).text, (List.getD v6 (Int.toNat v2) (dflt .api_Node)).keys, (List.getD v6 (Int.toNat v2) (dflt .api_Node)).kids⟩ : Node)).kids⟩ : Node)).kids)) else none) else none) else none) else none) else none) else (bif (okRe (⟨(0 : Int), ([] : List UInt8), ([] : List (List UInt8)), ([] : List Node)⟩ : Node)) then (bif ((decide ((0 : Int) ≤ v2) && decide (v2 < (v0.length : Int))) || !(redB (⟨(0 : Int), ([] : List UInt8), ([] : List (List UInt8)), ([] : List Node)⟩ : Node))) then (bif (decide ((0 : Int) ≤ v2) && decide (v2 < (v0.length : Int))) then (bif (okWi (⟨v9, v10, v11, v12⟩ : Node) (List.getD v0 (Int.toNat v2) (dflt .str)) (⟨(redV (⟨(0 : Int), ([] : List UInt8), ([] : List (List UInt8)), ([] : List Node)⟩ : Node)).kind, (redV (⟨(0 : Int), ([] : List UInt8), ([] : List (List UInt8)), ([] : List Node)⟩ : Node)).text, (redV (⟨(0 : Int), ([] : List UInt8), ([] : List (List UInt8)), ([] : List Node)⟩ : Node)).keys, (redV (⟨(0 : Int), ([] : List UInt8), ([] : List (List UInt8)), ([] : List Node)⟩ : Node)).kids⟩ : Node)) then G 0 (q18deps_C0 v0 (bif (redB (⟨(0 : Int), ([] : List UInt8), ([] : List (List UInt8)), ([] : List Node)⟩ : Node)) then ((nameV badS) (List.getD v0 (Int.toNat v2) (dflt .str))) else false) (w64 (v2 + (1 : Int))) v3 v4 v5 v6 v7 v8 ((withV (⟨v9, v10, v11, v12⟩ : Node) (List.getD v0 (Int.toNat v2) (dflt .str)) (⟨(redV (⟨(0 : Int), ([] : List UInt8), ([] : List (List UInt8)), ([] : List Node)⟩ : Node)).kind, (redV (⟨(0 : Int), ([] : List UInt8), ([] : List (List UInt8)), ([] : List Node)⟩ : Node)).text, (redV (⟨(0 : Int), ([] : List UInt8), ([] : List (List UInt8)), ([] : List Node)⟩ : Node)).keys, (redV (⟨(0 : Int), ([] : List UInt8), ([] : List (List UInt8)), ([] : List Node)⟩ : Node)).kids⟩ : Node)).kind) ((withV (⟨v9, v10, v11, v12⟩ : Node) (List.getD v0 (Int.toNat v2) (dflt .str)) (⟨(redV (⟨(0 : Int), ([] : List UInt8), ([] : List (List UInt8)), ([] : List Node)⟩ : Node)).kind, (redV (⟨(0 : Int), ([] : List UInt8), ([] : List (List UInt8)), ([] : List Node)⟩ : Node)).text, (redV (⟨(0 : Int), ([] : List UInt8), ([] : List (List UInt8)), ([] : List Node)⟩ : Node)).keys, (redV (⟨(0 : Int), ([] : List UInt8), ([] : List (List UInt8)), ([] : List Node)⟩ : Node)).kids⟩ : Node)).text) ((withV (⟨v9, v10, v11, v12⟩ : Node) (List.getD v0 (Int.toNat v2) (dflt .str)) (⟨(redV (⟨(0 : Int), ([] : List UInt8), ([] : List (List UInt8)), ([] : List Node)⟩ : Node)).kind, (redV (⟨(0 : Int), ([] : List UInt8), ([] : List (List UInt8)), ([] : List Node)⟩ : Node)).text, (redV (⟨(0 : Int), ([] : List UInt8), ([] : List (List UInt8)), ([] : List Node)⟩ : Node)).keys, (redV (⟨(0 : Int), ([] : List UInt8), ([] : List (List UInt8)), ([] : List Node)⟩ : Node)).kids⟩ : Node)).keys) ((withV (⟨v9, v10, v11, v12⟩ : Node) (List.getD v0 (Int.toNat v2) (dflt .str)) (⟨(redV (⟨(0 : Int), ([] : List UInt8), ([] : List (List UInt8)), ([] : List Node)⟩ : Node)).kind, (redV (⟨(0 : Int), ([] : List UInt8), ([] : List (List UInt8)), ([] : List Node)⟩ : Node)).text, (redV (⟨(0 : Int), ([] : List UInt8), ([] : List (List UInt8)), ([] : List Node)⟩ : Node)).keys, (redV (⟨(0 : Int), ([] : List UInt8), ([] : List (List UInt8)), ([] : List Node)⟩ : Node)).kids⟩ : Node)).kids)) else none) else none) else none) else none)) else (bif (okDn (⟨v9, v10, v11, v12⟩ : Node) v1) then some [⟨.api_Node, (⟨(doneV (⟨v9, v10, v11, v12⟩ : Node) v1).kind, (doneV (⟨v9, v10, v11, v12⟩ : Node) v1).text, (doneV (⟨v9, v10, v11, v12⟩ : Node) v1).keys, (doneV (⟨v9, v10, v11, v12⟩ : Node) v1).kids⟩ : Node)⟩, ⟨.bool, (doneB (⟨v9, v10, v11, v12⟩ : Node) v1)⟩] else none)
theorem q18deps_l0 (G : Nat → ASt E → Option (List (TV E))) (v0 : List (List UInt8)) (v1 : Bool) (v2 v3 : Int) (v4 : List UInt8) (v5 : List (List UInt8)) (v6 : List Node) (v7 : Int) (v8 : List UInt8) (v9 : Int) (v10 : List UInt8) (v11 : List (List UInt8)) (v12 : List Node) : runL q18deps_O q18deps_H G Tryz.f40 0 (q18deps_C0 v0 v1 v2 v3 v4 v5 v6 v7 v8 v9 v10 v11 v12) = q18deps_t0 G v0 v1 v2 v3 v4 v5 v6 v7 v8 v9 v10 v11 v12 := by kernel_rfl
theorem q18deps_f : Tryz.prog.funcs[40]? = some Tryz.f40 := by kernel_rfl
theorem q18deps_n : (Tryz.f40.name == "runtime.NumGoroutine") = false := by kernel_rfl
theorem q18deps_b : Tryz.f40.body.isNone = false := by kernel_rfl
theorem q18deps_ex : ∃ fn, Tryz.prog.funcs[40]? = some fn ∧ (fn.name == "runtime.NumGoroutine") = false ∧ fn.body.isNone = false := ⟨Tryz.f40, q18deps_f, q18deps_n, q18deps_b⟩
theorem q18deps_hO : OracleOk E q18deps_O := orac_ok (.cons rservice_ok (.cons rwith_ok (.cons r18done_ok (.cons q18edge_ok (.cons q18texts_ok .nil))))) .nil .nil .nil
theorem q18deps_s0 {res : List (TV E)} {v0 : List (List UInt8)} {v1 : Bool} {v2 v3 : Int} {v4 : List UInt8} {v5 : List (List UInt8)} {v6 : List Node} {v7 : Int} {v8 : List UInt8} {v9 : Int} {v10 : List UInt8} {v11 : List (List UInt8)} {v12 : List Node} (h : q18deps_t0 (Gr E Tryz.f40 res) v0 v1 v2 v3 v4 v5 v6 v7 v8 v9 v10 v11 v12 = some res) : Ev E Tryz.f40 res 0 (q18deps_C0 v0 v1 v2 v3 v4 v5 v6 v7 v8 v9 v10 v11 v12) := Ev.step q18deps_hO mix ((q18deps_l0 _ v0 v1 v2 v3 v4 v5 v6 v7 v8 v9 v10 v11 v12).trans h)
theorem q18deps_ok_of (h : ∀ (x0 : Node), okRd x0 = true → q18deps_t (Gr E Tryz.f40 [⟨.api_Node, rdpV x0⟩, ⟨.bool, rdpB x0⟩]) x0 = some [⟨.api_Node, rdpV x0⟩, ⟨.bool, rdpB x0⟩]) : FnOk E q18deps_id q18deps_W := fn12_ok q18deps_hO mix q18deps_f q18deps_n q18deps_b (fun x0 hk => (q18deps_e _ x0).trans (h x0 hk))
def anyK (_ : List UInt8) (_ : Node) : Prop := True
theorem redV_wg (y : Node) : wg 10000 2 (redV y) = true := by
  unfold redV
  cases onlB (em y) [cK, sK, rK] with
  | false => rfl
  | true => simp [wg, txtN]
theorem q18deps_0 (n : Node) (l : List (List UInt8)) (hl : l.length ≤ 1000) (h3 : n.kind = 3 → l.length ≤ n.kids.length) (hk : ∀ y ∈ n.kids, fit y = true) (u7 : Int) (u8 : List UInt8) : ∀ (m i : Nat) (b : Bool) (o : Node), l.length - i = m → i ≤ l.length → Bq anyK 2 i o →
    Ev E Tryz.f40 [⟨.api_Node, doneV (rd (nameV badS) (l.drop i) ((dpN n l).drop i) b o).1 (rd (nameV badS) (l.drop i) ((dpN n l).drop i) b o).2⟩, ⟨.bool, doneB (rd (nameV badS) (l.drop i) ((dpN n l).drop i) b o).1 (rd (nameV badS) (l.drop i) ((dpN n l).drop i) b o).2⟩] 0 (q18deps_C0 l b i n.kind n.text n.keys n.kids u7 u8 o.kind o.text o.keys o.kids) := by
  intro m
  induction m with
  | zero =>
    intro i b o h1 h2 hg
    refine q18deps_s0 ?_
    simp only [q18deps_t0, dge (show l.length ≤ i by omega), cond_false, node_eta, List.drop_eq_nil_of_le (show l.length ≤ i by omega), rd, hg.done_ok (by decide) b, cond_true]
  | succ m ih =>
    intro i b o h1 h2 hg
    have hi : i < l.length := by omega
    have e1 : w64 ((i : Int) + 1) = ((i + 1 : Nat) : Int) := by rw [w64_id (by omega) (by omega)]; omega
    refine q18deps_s0 ?_
    rw [← List.getElem_cons_drop hi]
    cases b with
    | false =>
      have e : rd (nameV badS) (l[i] :: l.drop (i + 1)) ((dpN n l).drop i) false o = (o, false) := by cases (dpN n l).drop i <;> rfl
      rw [e]
      simp only [q18deps_t0, dlt hi, cond_true, cond_false, node_eta, hg.done_ok (by decide) false]
    | true =>
      by_cases hn : n.kind = 3
      · have hj : i < n.kids.length := by have := h3 hn; omega
        have e5 : okRe n.kids[i] = true := hk _ (List.getElem_mem hj)
        have ed : (dpN n l).drop i = n.kids[i] :: (dpN n l).drop (i + 1) := by
          unfold dpN; rw [eqT hn, cond_true, List.getElem_cons_drop hj]
        rw [ed]
        simp only [q18deps_t0, dlt hi, dlt hj, d0, gd l _ i hi, gd n.kids _ i hj, Bool.and_self, Bool.true_or, cond_true, e1, e5, node_eta, hg.ok (by omega), eqT hn, rd]
        exact Gr_of (ih (i + 1) _ _ (by omega) (by omega) (hg.put trivial (redV_wg _)))
      · have e5 : okRe zn = true := rfl
        have ed : (dpN n l).drop i = zn :: (dpN n l).drop (i + 1) := by
          unfold dpN
          rw [eqF hn, cond_false, ← List.map_drop, ← List.map_drop, ← List.getElem_cons_drop hi]; rfl
        rw [ed]
        have ez : (⟨0, [], [], []⟩ : Node) = zn := rfl
        simp only [q18deps_t0, dlt hi, d0, gd l _ i hi, Bool.and_self, Bool.true_or, cond_true, cond_false, e1, node_eta, hg.ok (by omega), eqF hn, ez, e5, rd]
        exact Gr_of (ih (i + 1) _ _ (by omega) (by omega) (hg.put trivial (redV_wg _)))
theorem q18deps_ok : FnOk E q18deps_id q18deps_W := q18deps_ok_of fun n hk => by
  simp only [okRd, Bool.and_eq_true, decide_eq_true_eq, List.all_eq_true] at hk
  obtain ⟨⟨⟨h0, h1⟩, h2⟩, h4⟩ := hk
  have z : Bq anyK 2 0 zn := Bq.nil (.inl rfl)
  simp only [q18deps_t, node_eta]
  unfold rdpV rdpB rdP rdK
  change (bif rs0 n then _ else _) = _
  cases rs0 n with
  | true => exact Gr_of (q18deps_0 n n.keys h1 (fun h => by have := h0 h; omega) h4 0 [] n.keys.length 0 true zn rfl (Nat.zero_le _) z)
  | false => exact Gr_of (q18deps_0 n (rtxL n) (Nat.le_trans (rtxL_len n) h2) (fun _ => rtxL_len n) h4 0 [] (rtxL n).length 0 (rtxB n) zn rfl (Nat.zero_le _) z)
/-! What is extended -/
def rxB (m : Node) : Bool := bif (bif (bif (bif !(fldB m svK []) then true else !(fldB m fiK xS)) then true else !(nameV badS (fldV m svK []))) then true else decide (((fldV m fiK xS).length : Int) < 1)) then true else decide ((64 : Int) < ((fldV m fiK xS).length : Int))
def rexV (n : Node) : Node := bif !(onlB (ex1 n) [svK, fiK]) then zn else bif rxB (ex1 n) then zn else doneV (ex1 n) true
def rexB (n : Node) : Bool := bif !(onlB (ex1 n) [svK, fiK]) then false else bif rxB (ex1 n) then false else doneB (ex1 n) true
def okRx (n : Node) : Bool := fit (ex1 n) && ((ex1 n).kind != 3 || okDn (ex1 n) true)
noncomputable def q18ext_W : FnW E := fn12 (E := E) .api_Node .api_Node .bool okRx rexV rexB
def q18ext_id : FuncId := 41
noncomputable def q18ext_O : Oracle E := orac [(94, rservice_W), (93, r18done_W), (100, q18field_W), (99, q18only_W)] [] [] []
noncomputable def q18ext_H : Hint E := Hint.mk [] [] [] [] []
noncomputable def q18ext_t (_G : Nat → ASt E → Option (List (TV E))) (x0 : Node) : Option (List (TV E)) :=
  bif (x0.kind == (1 : Int)) then (bif (okOn (⟨(3 : Int), ([] : List UInt8), ([([115, 101, 114, 118, 105, 99, 101] : List UInt8)] : List (List UInt8)), ([(⟨x0.kind, x0.text, x0.keys, x0.kids⟩ : Node)] : List Node)⟩ : Node) ([([115, 101, 114, 118, 105, 99, 101] : List UInt8), ([102, 105, 108, 101] : List UInt8)] : List (List UInt8))) then (bif (!(onlB (⟨(3 : Int), ([] : List UInt8), ([([115, 101, 114, 118, 105, 99, 101] : List UInt8)] : List (List UInt8)), ([(⟨x0.kind, x0.text, x0.keys, x0.kids⟩ : Node)] : List Node)⟩ : Node) ([([115, 101, 114, 118, 105, 99, 101] : List UInt8), ([102, 105, 108, 101] : List UInt8)] : List (List UInt8)))) then some [⟨.api_Node, (⟨(0 : Int), ([] : List UInt8), ([] : List (List UInt8)), ([] : List Node)⟩ : Node)⟩, ⟨.bool, false⟩] else (bif (okFl (⟨(3 : Int), ([] : List UInt8), ([([115, 101, 114, 118, 105, 99, 101] : List UInt8)] : List (List UInt8)), ([(⟨x0.kind, x0.text, x0.keys, x0.kids⟩ : Node)] : List Node)⟩ : Node) ([115, 101, 114, 118, 105, 99, 101] : List UInt8) ([] : List UInt8)) then (bif (okFl (⟨(3 : Int), ([] : List UInt8), ([([115, 101, 114, 118, 105, 99, 101] : List UInt8)] : List (List UInt8)), ([(⟨x0.kind, x0.text, x0.keys, x0.kids⟩ : Node)] : List Node)⟩ : Node) ([102, 105, 108, 101] : List UInt8) ([120] : List UInt8)) then (bif (bif (bif (bif (bif (!(fldB (⟨(3 : Int), ([] : List UInt8), ([([115, 101, 114, 118, 105, 99, 101] : List UInt8)] : List (List UInt8)), ([(⟨x0.kind, x0.text, x0.keys, x0.kids⟩ : Node)] : List Node)⟩ : Node) ([115, 101, 114, 118, 105, 99, 101] : List UInt8) ([] : List UInt8))) then true else (!(fldB (⟨(3 : Int), ([] : List UInt8), ([([115, 101, 114, 118, 105, 99, 101] : List UInt8)] : List (List UInt8)), ([(⟨x0.kind, x0.text, x0.keys, x0.kids⟩ : Node)] : List Node)⟩ : Node) ([102, 105, 108, 101] : List UInt8) ([120] : List UInt8)))) then true else (!((nameV badS) (fldV (⟨(3 : Int), ([] : List UInt8), ([([115, 101, 114, 118, 105, 99, 101] : List UInt8)] : List (List UInt8)), ([(⟨x0.kind, x0.text, x0.keys, x0.kids⟩ : Node)] : List Node)⟩ : Node) ([115, 101, 114, 118, 105, 99, 101] : List UInt8) ([] : List UInt8))))) then true else (decide (((fldV (⟨(3 : Int), ([] : List UInt8), ([([115, 101, 114, 118, 105, 99, 101] : List UInt8)] : List (List UInt8)), ([(⟨x0.kind, x0.text, x0.keys, x0.kids⟩ : Node)] : List Node)⟩ : Node) ([102, 105, 108, 101] : List UInt8) ([120] : List UInt8)).length : Int) < (1 : Int)))) then true else (decide ((64 : Int) < ((fldV (⟨(3 : Int), ([] : List UInt8), ([([115, 101, 114, 118, 105, 99, 101] : List UInt8)] : List (List UInt8)), ([(⟨x0.kind, x0.text, x0.keys, x0.kids⟩ : Node)] : List Node)⟩ : Node) ([102, 105, 108, 101] : List UInt8) ([120] : List UInt8)).length : Int)))) then some [⟨.api_Node, (⟨(0 : Int), ([] : List UInt8), ([] : List (List UInt8)), ([] : List Node)⟩ : Node)⟩, ⟨.bool, false⟩] else (bif (okDn (⟨(3 : Int), ([] : List UInt8), ([([115, 101, 114, 118, 105, 99, 101] : List UInt8)] : List (List UInt8)), ([(⟨x0.kind, x0.text, x0.keys, x0.kids⟩ : Node)] : List Node)⟩ : Node) true) then some [⟨.api_Node, (⟨(doneV (⟨(3 : Int), ([] : List UInt8), ([([115, 101, 114, 118, 105, 99, 101] : List UInt8)] : List (List UInt8)), ([(⟨x0.kind, x0.text, x0.keys, x0.kids⟩ : Node)] : List Node)⟩ : Node) true).kind, (doneV (⟨(3 : Int), ([] : List UInt8), ([([115, 101, 114, 118, 105, 99, 101] : List UInt8)] : List (List UInt8)), ([(⟨x0.kind, x0.text, x0.keys, x0.kids⟩ : Node)] : List Node)⟩ : Node) true).text, (doneV (⟨(3 : Int), ([] : List UInt8), ([([115, 101, 114, 118, 105, 99, 101] : List UInt8)] : List (List UInt8)), ([(⟨x0.kind, x0.text, x0.keys, x0.kids⟩ : Node)] : List Node)⟩ : Node) true).keys, (doneV (⟨(3 : Int), ([] : List UInt8), ([([115, 101, 114, 118, 105, 99, 101] : List UInt8)] : List (List UInt8)), ([(⟨x0.kind, x0.text, x0.keys, x0.kids⟩ : Node)] : List Node)⟩ : Node) true).kids⟩ : Node)⟩, ⟨.bool, (doneB (⟨(3 : Int), ([] : List UInt8), ([([115, 101, 114, 118, 105, 99, 101] : List UInt8)] : List (List UInt8)), ([(⟨x0.kind, x0.text, x0.keys, x0.kids⟩ : Node)] : List Node)⟩ : Node) true)⟩] else none)) else none) else none)) else none) else (bif (okOn (⟨x0.kind, x0.text, x0.keys, x0.kids⟩ : Node) ([([115, 101, 114, 118, 105, 99, 101] : List UInt8), ([102, 105, 108, 101] : List UInt8)] : List (List UInt8))) then (bif (!(onlB (⟨x0.kind, x0.text, x0.keys, x0.kids⟩ : Node) ([([115, 101, 114, 118, 105, 99, 101] : List UInt8), ([102, 105, 108, 101] : List UInt8)] : List (List UInt8)))) then some [⟨.api_Node, (⟨(0 : Int), ([] : List UInt8), ([] : List (List UInt8)), ([] : List Node)⟩ : Node)⟩, ⟨.bool, false⟩] else (bif (okFl (⟨x0.kind, x0.text, x0.keys, x0.kids⟩ : Node) ([115, 101, 114, 118, 105, 99, 101] : List UInt8) ([] : List UInt8)) then (bif (okFl (⟨x0.kind, x0.text, x0.keys, x0.kids⟩ : Node) ([102, 105, 108, 101] : List UInt8) ([120] : List UInt8)) then (bif (bif (bif (bif (bif (!(fldB (⟨x0.kind, x0.text, x0.keys, x0.kids⟩ : Node) ([115, 101, 114, 118, 105, 99, 101] : List UInt8) ([] : List UInt8))) then true else (!(fldB (⟨x0.kind, x0.text, x0.keys, x0.kids⟩ : Node) ([102, 105, 108, 101] : List UInt8) ([120] : List UInt8)))) then true else (!((nameV badS) (fldV (⟨x0.kind, x0.text, x0.keys, x0.kids⟩ : Node) ([115, 101, 114, 118, 105, 99, 101] : List UInt8) ([] : List UInt8))))) then true else (decide (((fldV (⟨x0.kind, x0.text, x0.keys, x0.kids⟩ : Node) ([102, 105, 108, 101] : List UInt8) ([120] : List UInt8)).length : Int) < (1 : Int)))) then true else (decide ((64 : Int) < ((fldV (⟨x0.kind, x0.text, x0.keys, x0.kids⟩ : Node) ([102, 105, 108, 101] : List UInt8) ([120] : List UInt8)).length : Int)))) then some [⟨.api_Node, (⟨(0 : Int), ([] : List UInt8), ([] : List (List UInt8)), ([] : List Node)⟩ : Node)⟩, ⟨.bool, false⟩] else (bif (okDn (⟨x0.kind, x0.text, x0.keys, x0.kids⟩ : Node) true) then some [⟨.api_Node, (⟨(doneV (⟨x0.kind, x0.text, x0.keys, x0.kids⟩ : Node) true).kind, (doneV (⟨x0.kind, x0.text, x0.keys, x0.kids⟩ : Node) true).text, (doneV (⟨x0.kind, x0.text, x0.keys, x0.kids⟩ : Node) true).keys, (doneV (⟨x0.kind, x0.text, x0.keys, x0.kids⟩ : Node) true).kids⟩ : Node)⟩, ⟨.bool, (doneB (⟨x0.kind, x0.text, x0.keys, x0.kids⟩ : Node) true)⟩] else none)) else none) else none)) else none)
theorem q18ext_e (G : Nat → ASt E → Option (List (TV E))) (x0 : Node) : runE q18ext_O q18ext_H G Tryz.f41 [⟨.api_Node, x0⟩] = q18ext_t G x0 := by kernel_rfl
theorem q18ext_f : Tryz.prog.funcs[41]? = some Tryz.f41 := by kernel_rfl
theorem q18ext_n : (Tryz.f41.name == "runtime.NumGoroutine") = false := by kernel_rfl
theorem q18ext_b : Tryz.f41.body.isNone = false := by kernel_rfl
theorem q18ext_ex : ∃ fn, Tryz.prog.funcs[41]? = some fn ∧ (fn.name == "runtime.NumGoroutine") = false ∧ fn.body.isNone = false := ⟨Tryz.f41, q18ext_f, q18ext_n, q18ext_b⟩
theorem q18ext_hO : OracleOk E q18ext_O := orac_ok (.cons rservice_ok (.cons r18done_ok (.cons q18field_ok (.cons q18only_ok .nil)))) .nil .nil .nil
theorem q18ext_ok_of (h : ∀ (x0 : Node), okRx x0 = true → q18ext_t (Gr E Tryz.f41 [⟨.api_Node, rexV x0⟩, ⟨.bool, rexB x0⟩]) x0 = some [⟨.api_Node, rexV x0⟩, ⟨.bool, rexB x0⟩]) : FnOk E q18ext_id q18ext_W := fn12_ok q18ext_hO mix q18ext_f q18ext_n q18ext_b (fun x0 hk => (q18ext_e _ x0).trans (h x0 hk))
theorem q18ext_ok : FnOk E q18ext_id q18ext_W := q18ext_ok_of fun n hk => by
  simp only [okRx, Bool.and_eq_true] at hk
  obtain ⟨hf, hd⟩ := hk
  have hd : (ex1 n).kind = 3 → okDn (ex1 n) true = true := fun e => by
    rw [Bool.or_eq_true] at hd
    exact hd.resolve_left (by rw [e]; decide)
  have fin : ∀ m : Node, fit m = true → (m.kind = 3 → okDn m true = true) → m = ex1 n → ∀ (X : Option (List (TV E))), X = (bif okOn m [svK, fiK] then (bif !(onlB m [svK, fiK]) then some [⟨.api_Node, zn⟩, ⟨.bool, false⟩] else bif okFl m svK [] then bif okFl m fiK xS then bif rxB m then some [⟨.api_Node, zn⟩, ⟨.bool, false⟩] else bif okDn m true then some [⟨.api_Node, doneV m true⟩, ⟨.bool, doneB m true⟩] else none else none else none) else none) → X = some [⟨.api_Node, rexV n⟩, ⟨.bool, rexB n⟩] := by
    intro m hm hdm he X hX
    have ho : okOn m [svK, fiK] = true := by
      simp only [okOn, Bool.and_eq_true]
      exact ⟨ln6_iff.2 (fit_iff.1 hm).1.1, rfl⟩
    have o1 : okFl m svK [] = true := hm
    have o2 : okFl m fiK xS = true := hm
    rw [hX, ho, o1, o2, cond_true]
    unfold rexV rexB
    rw [← he]
    cases hb : onlB m [svK, fiK] with
    | false => rfl
    | true =>
      have h3 : m.kind = 3 := by
        unfold onlB at hb
        by_cases h : m.kind = 3
        · exact h
        · rw [neT h] at hb; cases hb
      rw [hdm h3]
      cases rxB m <;> rfl
  by_cases h1 : n.kind = 1
  · have he : ex1 n = ⟨3, [], [svK], [n]⟩ := by unfold ex1; rw [eqT h1]; rfl
    rw [he] at hf hd
    refine fin _ hf hd he.symm _ ?_
    simp only [q18ext_t, eqT h1, cond_true, node_eta]
    rfl
  · have he : ex1 n = n := by unfold ex1; rw [eqF h1]; rfl
    rw [he] at hf hd
    refine fin _ hf hd he.symm _ ?_
    simp only [q18ext_t, eqF h1, cond_false, node_eta]
    rfl
end Go.Proofs.YtpmknebhacaocaaGreatDoor.Rf