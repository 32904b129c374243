/- 'NormHealth' of chapter 18, closed: what the law's function computes (by the Mirror) gives the given statement (the row's card, tied to the program's text), without conditions. -/
import Derived.Test.YtgniedpgdjmfpaaGreatDoorZ6
import Derived.Test.YtgniedpgdjmfpaaGreatDoorZ5
import Derived.Test.YtgniedpgdjmfpaaGreatDoorZ3
import Derived.Deep.Slices
import Derived.ChangeSame
import Derived.ChangeArms
import Derived.Test.YtgniedpgdjmfpaaGreatDoorCards
import Derived.Test.YtgniedpgdjmfpaaGreatDoorTie
import Derived.WalkKit
import Derived.ProofKit
import Derived.OpenShut
import Derived.ChangeOld
import Derived.Below
import Derived.Carry
import Derived.Lay
import Derived.LaidMore
import Derived.SevenTiedAt
import Derived.Stop.Joined
namespace Go.Proofs.YtgniedpgdjmfpaaGreatDoor.Rf
open Go Go.RowKit Go.Sort Go.Proofs.YtgniedpgdjmfpaaGreatDoor.Mir
def onlB (n : Node) (l : List (List UInt8)) : Bool := bif n.kind != 3 then false else n.keys.all fun k => inV l k
def okOn (n : Node) (l : List (List UInt8)) : Bool := ln6 n.keys && ln6 l
noncomputable def q18only_W : FnW E := fn2 (E := E) .api_Node .l_str .bool okOn onlB
def q18only_id : FuncId := 99
noncomputable def q18only_O : Oracle E := orac [(91, rin_W)] [] [] []
noncomputable def q18only_H : Hint E := Hint.mk [(0, [1, 2, 5])] [] [] [] []
noncomputable def q18only_C0 (v0 : List (List UInt8)) (v1 v2 : Int) (v3 : List UInt8) (v4 : List (List UInt8)) (v5 : List Node) : ASt E := ASt.mk 24 [(1, .d (.slice .str v0)), (2, .ptr 0 0), (5, .d (.int .i64 v1))] [(0, .box [.d (.int .i64 v2), .d (.str v3), .d (.slice .str v4), .d (.slice .api_Node v5)])] 1
noncomputable def q18only_t (G : Nat → ASt E → Option (List (TV E))) (x0 : Node) (x1 : List (List UInt8)) : Option (List (TV E)) :=
  bif (x0.kind != (3 : Int)) then some [⟨.bool, false⟩] else G 0 (q18only_C0 x1 0 x0.kind x0.text x0.keys x0.kids)
theorem q18only_e (G : Nat → ASt E → Option (List (TV E))) (x0 : Node) (x1 : List (List UInt8)) : runE q18only_O q18only_H G Tryz.f99 [⟨.api_Node, x0⟩, ⟨.l_str, x1⟩] = q18only_t G x0 x1 := by kernel_rfl
noncomputable def q18only_t0 (G : Nat → ASt E → Option (List (TV E))) (v0 : List (List UInt8)) (v1 v2 : Int) (v3 : List UInt8) (v4 : List (List UInt8)) (v5 : List Node) : Option (List (TV E)) :=
  bif (decide (v1 < (v4.length : Int))) then (bif (decide ((0 : Int) ≤ v1) && decide (v1 < (v4.length : Int))) then (bif ((fun l _ => ln6 l) v0 (List.getD v4 (Int.toNat v1) (dflt .str))) then (bif (!(inV v0 (List.getD v4 (Int.toNat v1) (dflt .str)))) then some [⟨.bool, false⟩] else G 0 (q18only_C0 v0 (w64 (v1 + (1 : Int))) v2 v3 v4 v5)) else none) else none) else some [⟨.bool, true⟩]
theorem q18only_l0 (G : Nat → ASt E → Option (List (TV E))) (v0 : List (List UInt8)) (v1 v2 : Int) (v3 : List UInt8) (v4 : List (List UInt8)) (v5 : List Node) : runL q18only_O q18only_H G Tryz.f99 0 (q18only_C0 v0 v1 v2 v3 v4 v5) = q18only_t0 G v0 v1 v2 v3 v4 v5 := by kernel_rfl
theorem q18only_f : Tryz.prog.funcs[99]? = some Tryz.f99 := by kernel_rfl
theorem q18only_n : (Tryz.f99.name == "runtime.NumGoroutine") = false := by kernel_rfl
theorem q18only_b : Tryz.f99.body.isNone = false := by kernel_rfl
theorem q18only_hO : OracleOk E q18only_O := orac_ok (.cons rin_ok .nil) .nil .nil .nil
theorem q18only_s0 {res : List (TV E)} {v0 : List (List UInt8)} {v1 v2 : Int} {v3 : List UInt8} {v4 : List (List UInt8)} {v5 : List Node} (h : q18only_t0 (Gr E Tryz.f99 res) v0 v1 v2 v3 v4 v5 = some res) : Ev E Tryz.f99 res 0 (q18only_C0 v0 v1 v2 v3 v4 v5) := Ev.step q18only_hO mix ((q18only_l0 _ v0 v1 v2 v3 v4 v5).trans h)
theorem q18only_ok_of (h : ∀ (x0 : Node) (x1 : List (List UInt8)), okOn x0 x1 = true → q18only_t (Gr E Tryz.f99 [⟨.bool, onlB x0 x1⟩]) x0 x1 = some [⟨.bool, onlB x0 x1⟩]) : FnOk E q18only_id q18only_W := fn2_ok q18only_hO mix q18only_f q18only_n q18only_b (fun x0 x1 hk => (q18only_e _ x0 x1).trans (h x0 x1 hk))
theorem q18only_0 (l : List (List UInt8)) (hl : ln6 l = true) (ks : List (List UInt8)) (hk : ks.length ≤ 1000000) (u : Int) (t : List UInt8) (vs : List Node) : ∀ (m i : Nat), ks.length - i = m → i ≤ ks.length →
    Ev E Tryz.f99 [⟨.bool, (ks.drop i).all fun k => inV l k⟩] 0 (q18only_C0 l i u t ks vs) := by
  intro m
  induction m with
  | zero =>
    intro i  h1 h2
    refine q18only_s0 ?_
    simp only [q18only_t0, dge (show ks.length ≤ i by omega), cond_false, List.drop_eq_nil_of_le (show ks.length ≤ i by omega)]
    rfl
  | succ m ih2 =>
    intro i  h1 h2
    have hi : i < ks.length := by omega
    have e3 : w64 ((i : Int) + 1) = ((i + 1 : Nat) : Int) := by rw [w64_id (by omega) (by omega)]; omega
    refine q18only_s0 ?_
    simp only [q18only_t0, dlt hi, d0, gd ks _ i hi, e3, Bool.and_self, Bool.true_or, cond_true, hl]
    rw [← List.getElem_cons_drop hi]
    rw [List.all_cons]
    cases inV l ks[i] with
    | false => rfl
    | true => exact Gr_of (ih2 (i + 1) (by omega) (by omega))
theorem q18only_ok : FnOk E q18only_id q18only_W := q18only_ok_of fun n l hk => by
  simp only [okOn, Bool.and_eq_true] at hk
  simp only [q18only_t]
  unfold onlB
  by_cases h3 : n.kind = 3
  · rw [neF h3]
    exact Gr_of (q18only_0 l hk.2 n.keys (ln6_iff.1 hk.1) n.kind n.text n.kids _ 0 rfl (Nat.zero_le _))
  · rw [neT h3]; rfl
def okFl (n : Node) (_ _ : List UInt8) : Bool := fit n
noncomputable def q18field_W : FnW E := fn32 (E := E) .api_Node .str .str .str .bool okFl fldV fldB
def q18field_id : FuncId := 100
noncomputable def q18field_O : Oracle E := orac [(102, rget_W)] [] [] []
noncomputable def q18field_H : Hint E := Hint.mk [] [] [] [] []
noncomputable def q18field_t (_G : Nat → ASt E → Option (List (TV E))) (x0 : Node) (x1 x2 : List UInt8) : Option (List (TV E)) :=
  bif ((fun n _ => fit n) (⟨x0.kind, x0.text, x0.keys, x0.kids⟩ : Node) x1) then (bif (!(getB ⟨x0.kind, x0.text, x0.keys, x0.kids⟩ x1)) then some [⟨.str, x2⟩, ⟨.bool, true⟩] else some [⟨.str, (getV ⟨x0.kind, x0.text, x0.keys, x0.kids⟩ x1).text⟩, ⟨.bool, ((getV ⟨x0.kind, x0.text, x0.keys, x0.kids⟩ x1).kind == (1 : Int))⟩]) else none
theorem q18field_e (G : Nat → ASt E → Option (List (TV E))) (x0 : Node) (x1 : List UInt8) (x2 : List UInt8) : runE q18field_O q18field_H G Tryz.f100 [⟨.api_Node, x0⟩, ⟨.str, x1⟩, ⟨.str, x2⟩] = q18field_t G x0 x1 x2 := by kernel_rfl
theorem q18field_f : Tryz.prog.funcs[100]? = some Tryz.f100 := by kernel_rfl
theorem q18field_n : (Tryz.f100.name == "runtime.NumGoroutine") = false := by kernel_rfl
theorem q18field_b : Tryz.f100.body.isNone = false := by kernel_rfl
theorem q18field_hO : OracleOk E q18field_O := orac_ok (.cons rget_ok .nil) .nil .nil .nil
theorem q18field_ok_of (h : ∀ (x0 : Node) (x1 : List UInt8) (x2 : List UInt8), okFl x0 x1 x2 = true → q18field_t (Gr E Tryz.f100 [⟨.str, fldV x0 x1 x2⟩, ⟨.bool, fldB x0 x1 x2⟩]) x0 x1 x2 = some [⟨.str, fldV x0 x1 x2⟩, ⟨.bool, fldB x0 x1 x2⟩]) : FnOk E q18field_id q18field_W := fn32_ok q18field_hO mix q18field_f q18field_n q18field_b (fun x0 x1 x2 hk => (q18field_e _ x0 x1 x2).trans (h x0 x1 x2 hk))
theorem q18field_ok : FnOk E q18field_id q18field_W := q18field_ok_of fun n k o hk => by
  have hk : fit n = true := hk
  simp only [q18field_t, node_eta, hk, cond_true, fldV, fldB]
  cases getB n k <;> rfl
def truB (n : Node) (k o : List UInt8) : Bool := bif fldB n k o then (bif fldV n k o == [116, 114, 117, 101] then true else fldV n k o == [102, 97, 108, 115, 101]) else false
noncomputable def q18truth_W : FnW E := fn32 (E := E) .api_Node .str .str .str .bool okFl fldV truB
def q18truth_id : FuncId := 101
noncomputable def q18truth_O : Oracle E := orac [(100, q18field_W)] [] [] []
noncomputable def q18truth_H : Hint E := Hint.mk [] [] [] [] []
noncomputable def q18truth_t (_G : Nat → ASt E → Option (List (TV E))) (x0 : Node) (x1 x2 : List UInt8) : Option (List (TV E)) :=
  bif (okFl ⟨x0.kind, x0.text, x0.keys, x0.kids⟩ x1 x2) then some [⟨.str, (fldV ⟨x0.kind, x0.text, x0.keys, x0.kids⟩ x1 x2)⟩, ⟨.bool, (bif (fldB ⟨x0.kind, x0.text, x0.keys, x0.kids⟩ x1 x2) then (bif ((fldV ⟨x0.kind, x0.text, x0.keys, x0.kids⟩ x1 x2) == ([116, 114, 117, 101] : List UInt8)) then true else ((fldV ⟨x0.kind, x0.text, x0.keys, x0.kids⟩ x1 x2) == ([102, 97, 108, 115, 101] : List UInt8))) else false)⟩] else none
theorem q18truth_e (G : Nat → ASt E → Option (List (TV E))) (x0 : Node) (x1 : List UInt8) (x2 : List UInt8) : runE q18truth_O q18truth_H G Tryz.f101 [⟨.api_Node, x0⟩, ⟨.str, x1⟩, ⟨.str, x2⟩] = q18truth_t G x0 x1 x2 := by kernel_rfl
theorem q18truth_f : Tryz.prog.funcs[101]? = some Tryz.f101 := by kernel_rfl
theorem q18truth_n : (Tryz.f101.name == "runtime.NumGoroutine") = false := by kernel_rfl
theorem q18truth_b : Tryz.f101.body.isNone = false := by kernel_rfl
theorem q18truth_hO : OracleOk E q18truth_O := orac_ok (.cons q18field_ok .nil) .nil .nil .nil
theorem q18truth_ok_of (h : ∀ (x0 : Node) (x1 : List UInt8) (x2 : List UInt8), okFl x0 x1 x2 = true → q18truth_t (Gr E Tryz.f101 [⟨.str, fldV x0 x1 x2⟩, ⟨.bool, truB x0 x1 x2⟩]) x0 x1 x2 = some [⟨.str, fldV x0 x1 x2⟩, ⟨.bool, truB x0 x1 x2⟩]) : FnOk E q18truth_id q18truth_W := fn32_ok q18truth_hO mix q18truth_f q18truth_n q18truth_b (fun x0 x1 x2 hk => (q18truth_e _ x0 x1 x2).trans (h x0 x1 x2 hk))
theorem q18truth_ok : FnOk E q18truth_id q18truth_W := q18truth_ok_of fun n k o hk => by
  simp only [q18truth_t, node_eta, hk, cond_true]
  rfl
noncomputable def q18test_W : FnW E := fn12 (E := E) .api_Node .str .int okTs tsS tsK
def q18test_id : FuncId := 103
noncomputable def q18test_O : Oracle E := orac [(146, rwjoin_W), (88, q18texts_W)] [] [] []
noncomputable def q18test_H : Hint E := Hint.mk [] [] [] [] []
noncomputable def q18test_t (_G : Nat → ASt E → Option (List (TV E))) (x0 : Node) : Option (List (TV E)) :=
  bif (x0.kind == (1 : Int)) then some [⟨.str, x0.text⟩, ⟨.int, (1 : Int)⟩] else (bif (bif (!(rtxB ⟨x0.kind, x0.text, x0.keys, x0.kids⟩)) then true else (((rtxL ⟨x0.kind, x0.text, x0.keys, x0.kids⟩).length : Int) == (0 : Int))) then some [⟨.str, ([] : List UInt8)⟩, ⟨.int, (0 : Int)⟩] else (bif (decide ((0 : Int) ≤ (0 : Int)) && decide ((0 : Int) < ((rtxL ⟨x0.kind, x0.text, x0.keys, x0.kids⟩).length : Int))) then (bif (bif ((List.getD (rtxL ⟨x0.kind, x0.text, x0.keys, x0.kids⟩) (Int.toNat 0) (dflt .str)) == ([78, 79, 78, 69] : List UInt8)) then (((rtxL ⟨x0.kind, x0.text, x0.keys, x0.kids⟩).length : Int) == (1 : Int)) else false) then some [⟨.str, ([] : List UInt8)⟩, ⟨.int, (2 : Int)⟩] else (bif (decide ((0 : Int) ≤ (0 : Int)) && decide ((0 : Int) < ((rtxL ⟨x0.kind, x0.text, x0.keys, x0.kids⟩).length : Int))) then (bif (bif ((List.getD (rtxL ⟨x0.kind, x0.text, x0.keys, x0.kids⟩) (Int.toNat 0) (dflt .str)) == ([67, 77, 68, 45, 83, 72, 69, 76, 76] : List UInt8)) then (((rtxL ⟨x0.kind, x0.text, x0.keys, x0.kids⟩).length : Int) == (2 : Int)) else false) then (bif (decide ((0 : Int) ≤ (1 : Int)) && decide ((1 : Int) < ((rtxL ⟨x0.kind, x0.text, x0.keys, x0.kids⟩).length : Int))) then some [⟨.str, (List.getD (rtxL ⟨x0.kind, x0.text, x0.keys, x0.kids⟩) (Int.toNat 1) (dflt .str))⟩, ⟨.int, (1 : Int)⟩] else none) else (bif (decide ((0 : Int) ≤ (0 : Int)) && decide ((0 : Int) < ((rtxL ⟨x0.kind, x0.text, x0.keys, x0.kids⟩).length : Int))) then (bif (bif ((List.getD (rtxL ⟨x0.kind, x0.text, x0.keys, x0.kids⟩) (Int.toNat 0) (dflt .str)) == ([67, 77, 68] : List UInt8)) then (decide ((1 : Int) < ((rtxL ⟨x0.kind, x0.text, x0.keys, x0.kids⟩).length : Int))) else false) then (bif (decide ((0 : Int) ≤ (1 : Int)) && decide ((1 : Int) ≤ ((rtxL ⟨x0.kind, x0.text, x0.keys, x0.kids⟩).length : Int)) && decide (((rtxL ⟨x0.kind, x0.text, x0.keys, x0.kids⟩).length : Int) ≤ ((rtxL ⟨x0.kind, x0.text, x0.keys, x0.kids⟩).length : Int))) then (bif (okWj (List.take (Int.toNat ((rtxL ⟨x0.kind, x0.text, x0.keys, x0.kids⟩).length : Int) - Int.toNat 1) (List.drop (Int.toNat 1) (rtxL ⟨x0.kind, x0.text, x0.keys, x0.kids⟩)))) then some [⟨.str, (wjV (List.take (Int.toNat ((rtxL ⟨x0.kind, x0.text, x0.keys, x0.kids⟩).length : Int) - Int.toNat 1) (List.drop (Int.toNat 1) (rtxL ⟨x0.kind, x0.text, x0.keys, x0.kids⟩))))⟩, ⟨.int, (1 : Int)⟩] else none) else none) else some [⟨.str, ([] : List UInt8)⟩, ⟨.int, (0 : Int)⟩]) else none)) else none)) else none))
theorem q18test_e (G : Nat → ASt E → Option (List (TV E))) (x0 : Node) : runE q18test_O q18test_H G Tryz.f103 [⟨.api_Node, x0⟩] = q18test_t G x0 := by kernel_rfl
theorem q18test_f : Tryz.prog.funcs[103]? = some Tryz.f103 := by kernel_rfl
theorem q18test_n : (Tryz.f103.name == "runtime.NumGoroutine") = false := by kernel_rfl
theorem q18test_b : Tryz.f103.body.isNone = false := by kernel_rfl
theorem q18test_hO : OracleOk E q18test_O := orac_ok (.cons rwjoin_ok (.cons q18texts_ok .nil)) .nil .nil .nil
theorem q18test_ok_of (h : ∀ (x0 : Node), okTs x0 = true → q18test_t (Gr E Tryz.f103 [⟨.str, tsS x0⟩, ⟨.int, tsK x0⟩]) x0 = some [⟨.str, tsS x0⟩, ⟨.int, tsK x0⟩]) : FnOk E q18test_id q18test_W := fn12_ok q18test_hO mix q18test_f q18test_n q18test_b (fun x0 hk => (q18test_e _ x0).trans (h x0 hk))
theorem q18test_ok : FnOk E q18test_id q18test_W := q18test_ok_of fun n hk => by
  obtain ⟨h1, h2⟩ := okTs_iff.1 hk
  have hl := txsL_len n
  have o2 : okWj ((txsL n).drop 1) = true := okWj_iff.2 ⟨by rw [List.length_drop]; omega, fun s hs => h2 s (List.mem_of_mem_drop hs)⟩
  have ht : List.take ((txsL n).length - 1) (List.drop 1 (txsL n)) = (txsL n).drop 1 := List.take_of_length_le (by rw [List.length_drop]; exact Nat.le_refl _)
  simp only [q18test_t, node_eta, rtxB_eq]
  unfold tsS tsK tsX
  cases n.kind == 1 with
  | true => rfl
  | false =>
    cases hb : txsB n with
    | false => rfl
    | true =>
      rw [rtxL_eq hb]
      simp only [cond_false, Bool.not_true]
      cases hz : (((txsL n).length : Int) == 0) with
      | true => rfl
      | false =>
        have hpos : 0 < (txsL n).length := by
          have : ((txsL n).length : Int) ≠ 0 := by simpa using hz
          omega
        simp only [cond_true, cond_false, show Int.toNat (0 : Int) = 0 from rfl, show Int.toNat (1 : Int) = 1 from rfl, Int.toNat_natCast, ht, o2, dle (Nat.le_refl (txsL n).length), show decide ((0 : Int) ≤ (0 : Int)) = true from rfl, show decide ((0 : Int) ≤ (1 : Int)) = true from rfl, Bool.true_and, Bool.and_true, dT (show (0 : Int) < ((txsL n).length : Int) by omega), dT (show (1 : Int) ≤ ((txsL n).length : Int) by omega), Bool.true_or]
        change (bif (bif (txsL n).getD 0 [] == nonS then ((txsL n).length : Int) == 1 else false) then _ else (bif (bif (txsL n).getD 0 [] == shlS then ((txsL n).length : Int) == 2 else false) then _ else (bif (bif (txsL n).getD 0 [] == cmdS then decide ((1 : Int) < ((txsL n).length : Int)) else false) then _ else _))) = _
        cases hn : (txsL n).getD 0 [] == nonS with
        | true =>
          have h0 : (txsL n).getD 0 [] = nonS := by simpa using hn
          have e1 : ((txsL n).getD 0 [] == shlS) = false := by rw [h0]; rfl
          have e2 : ((txsL n).getD 0 [] == cmdS) = false := by rw [h0]; rfl
          simp only [e1, e2, cond_true, cond_false]
          cases (((txsL n).length : Int) == 1) <;> rfl
        | false =>
          cases hs : (txsL n).getD 0 [] == shlS with
          | true =>
            have h0 : (txsL n).getD 0 [] = shlS := by simpa using hs
            have e2 : ((txsL n).getD 0 [] == cmdS) = false := by rw [h0]; rfl
            simp only [e2, cond_true, cond_false]
            cases h2 : (((txsL n).length : Int) == 2) with
            | true =>
              have := eq_of_beq h2
              rw [dT (show (1 : Int) < ((txsL n).length : Int) by omega)]
              rfl
            | false => rfl
          | false =>
            cases (txsL n).getD 0 [] == cmdS with
            | true =>
              simp only [cond_true, cond_false]
              by_cases h1l : (1 : Int) < ((txsL n).length : Int)
              · rw [dT h1l]; rfl
              · have hd : (txsL n).drop 1 = [] := List.drop_eq_nil_of_le (by omega)
                rw [dF h1l, hd]; rfl
            | false => rfl
def spV (n : Node) (k : List UInt8) (_ : Int) : List UInt8 := bif getB n k then dtV (durV (getV n k).text) else []
def spB (n : Node) (k : List UInt8) (l : Int) : Bool := bif getB n k then (bif (bif (getV n k).kind == 1 then durE (getV n k).text == 0 else false) then decide (l ≤ durV (getV n k).text) else false) else true
def okSn (n : Node) (k : List UInt8) (_ : Int) : Bool := fit n && decide ((fldV n k oneS).length ≤ 1000000)
noncomputable def q18span_W : FnW E := fn32 (E := E) .api_Node .str .int .str .bool okSn spV spB
def q18span_id : FuncId := 104
noncomputable def q18span_O : Oracle E := orac [(147, r3parse_W), (148, r3text_W), (102, rget_W), (100, q18field_W)] [] [] []
noncomputable def q18span_H : Hint E := Hint.mk [] [] [] [] []
noncomputable def q18span_t (_G : Nat → ASt E → Option (List (TV E))) (x0 : Node) (x1 : List UInt8) (x2 : Int) : Option (List (TV E)) :=
  bif ((fun n _ => fit n) (⟨x0.kind, x0.text, x0.keys, x0.kids⟩ : Node) x1) then (bif (!(getB ⟨x0.kind, x0.text, x0.keys, x0.kids⟩ x1)) then some [⟨.str, ([] : List UInt8)⟩, ⟨.bool, true⟩] else (bif (okFl ⟨x0.kind, x0.text, x0.keys, x0.kids⟩ x1 []) then (bif (okL1 (fldV ⟨x0.kind, x0.text, x0.keys, x0.kids⟩ x1 [])) then some [⟨.str, (dtV (durV (fldV ⟨x0.kind, x0.text, x0.keys, x0.kids⟩ x1 [])))⟩, ⟨.bool, (bif (bif (fldB ⟨x0.kind, x0.text, x0.keys, x0.kids⟩ x1 []) then ((durE (fldV ⟨x0.kind, x0.text, x0.keys, x0.kids⟩ x1 [])) == (0 : Int)) else false) then (decide (x2 ≤ (durV (fldV ⟨x0.kind, x0.text, x0.keys, x0.kids⟩ x1 [])))) else false)⟩] else none) else none)) else none
theorem q18span_e (G : Nat → ASt E → Option (List (TV E))) (x0 : Node) (x1 : List UInt8) (x2 : Int) : runE q18span_O q18span_H G Tryz.f104 [⟨.api_Node, x0⟩, ⟨.str, x1⟩, ⟨.int, x2⟩] = q18span_t G x0 x1 x2 := by kernel_rfl
theorem q18span_f : Tryz.prog.funcs[104]? = some Tryz.f104 := by kernel_rfl
theorem q18span_n : (Tryz.f104.name == "runtime.NumGoroutine") = false := by kernel_rfl
theorem q18span_b : Tryz.f104.body.isNone = false := by kernel_rfl
theorem q18span_hO : OracleOk E q18span_O := orac_ok (.cons r3parse_ok (.cons r3text_ok (.cons rget_ok (.cons q18field_ok .nil)))) .nil .nil .nil
theorem q18span_ok_of (h : ∀ (x0 : Node) (x1 : List UInt8) (x2 : Int), okSn x0 x1 x2 = true → q18span_t (Gr E Tryz.f104 [⟨.str, spV x0 x1 x2⟩, ⟨.bool, spB x0 x1 x2⟩]) x0 x1 x2 = some [⟨.str, spV x0 x1 x2⟩, ⟨.bool, spB x0 x1 x2⟩]) : FnOk E q18span_id q18span_W := fn32_ok q18span_hO mix q18span_f q18span_n q18span_b (fun x0 x1 x2 hk => (q18span_e _ x0 x1 x2).trans (h x0 x1 x2 hk))
theorem q18span_ok : FnOk E q18span_id q18span_W := q18span_ok_of fun n k l hk => by
  simp only [okSn, Bool.and_eq_true, decide_eq_true_eq] at hk
  obtain ⟨hf, hl⟩ := hk
  have o1 : okFl n k [] = true := hf
  simp only [q18span_t, node_eta, hf, o1, cond_true]
  unfold spV spB
  cases g : getB n k with
  | false => rfl
  | true =>
    have ef : ∀ o, fldV n k o = (getV n k).text := fun o => by unfold fldV; rw [g]; rfl
    have eb : fldB n k [] = ((getV n k).kind == 1) := by unfold fldB; rw [g]; rfl
    rw [ef] at hl
    have o2 : okL1 (getV n k).text = true := okL1_iff.2 hl
    simp only [ef, eb, o2, Bool.not_true, cond_true, cond_false]
def nuV (n : Node) (k : List UInt8) : Int := bif getB n k then cntV (getV n k).text 65536 else 0
def nuB (n : Node) (k : List UInt8) : Bool := bif getB n k then (bif (bif (getV n k).kind == 1 then cntE (getV n k).text 65536 == 0 else false) then decide (0 < cntV (getV n k).text 65536) else false) else true
def okNu (n : Node) (k : List UInt8) : Bool := fit n && decide ((fldV n k zerS).length ≤ 1000000)
noncomputable def q18num_W : FnW E := fn22 (E := E) .api_Node .str .int .bool okNu nuV nuB
def q18num_id : FuncId := 105
noncomputable def q18num_O : Oracle E := orac [(87, rcount_W), (102, rget_W), (100, q18field_W)] [] [] []
noncomputable def q18num_H : Hint E := Hint.mk [] [] [] [] []
noncomputable def q18num_t (_G : Nat → ASt E → Option (List (TV E))) (x0 : Node) (x1 : List UInt8) : Option (List (TV E)) :=
  bif ((fun n _ => fit n) (⟨x0.kind, x0.text, x0.keys, x0.kids⟩ : Node) x1) then (bif (!(getB ⟨x0.kind, x0.text, x0.keys, x0.kids⟩ x1)) then some [⟨.int, (0 : Int)⟩, ⟨.bool, true⟩] else (bif (okFl ⟨x0.kind, x0.text, x0.keys, x0.kids⟩ x1 []) then (bif (okW (fldV ⟨x0.kind, x0.text, x0.keys, x0.kids⟩ x1 []) 65536) then some [⟨.int, (cntV (fldV ⟨x0.kind, x0.text, x0.keys, x0.kids⟩ x1 []) 65536)⟩, ⟨.bool, (bif (bif (fldB ⟨x0.kind, x0.text, x0.keys, x0.kids⟩ x1 []) then ((cntE (fldV ⟨x0.kind, x0.text, x0.keys, x0.kids⟩ x1 []) 65536) == (0 : Int)) else false) then (decide ((0 : Int) < (cntV (fldV ⟨x0.kind, x0.text, x0.keys, x0.kids⟩ x1 []) 65536))) else false)⟩] else none) else none)) else none
theorem q18num_e (G : Nat → ASt E → Option (List (TV E))) (x0 : Node) (x1 : List UInt8) : runE q18num_O q18num_H G Tryz.f105 [⟨.api_Node, x0⟩, ⟨.str, x1⟩] = q18num_t G x0 x1 := by kernel_rfl
theorem q18num_f : Tryz.prog.funcs[105]? = some Tryz.f105 := by kernel_rfl
theorem q18num_n : (Tryz.f105.name == "runtime.NumGoroutine") = false := by kernel_rfl
theorem q18num_b : Tryz.f105.body.isNone = false := by kernel_rfl
theorem q18num_hO : OracleOk E q18num_O := orac_ok (.cons rcount_ok (.cons rget_ok (.cons q18field_ok .nil))) .nil .nil .nil
theorem q18num_ok_of (h : ∀ (x0 : Node) (x1 : List UInt8), okNu x0 x1 = true → q18num_t (Gr E Tryz.f105 [⟨.int, nuV x0 x1⟩, ⟨.bool, nuB x0 x1⟩]) x0 x1 = some [⟨.int, nuV x0 x1⟩, ⟨.bool, nuB x0 x1⟩]) : FnOk E q18num_id q18num_W := fn22_ok q18num_hO mix q18num_f q18num_n q18num_b (fun x0 x1 hk => (q18num_e _ x0 x1).trans (h x0 x1 hk))
theorem q18num_ok : FnOk E q18num_id q18num_W := q18num_ok_of fun n k hk => by
  simp only [okNu, Bool.and_eq_true, decide_eq_true_eq] at hk
  obtain ⟨hf, hl⟩ := hk
  have o1 : okFl n k [] = true := hf
  simp only [q18num_t, node_eta, hf, o1, cond_true]
  unfold nuV nuB
  cases g : getB n k with
  | false => rfl
  | true =>
    have ef : ∀ o, fldV n k o = (getV n k).text := fun o => by unfold fldV; rw [g]; rfl
    have eb : fldB n k [] = ((getV n k).kind == 1) := by unfold fldB; rw [g]; rfl
    rw [ef] at hl
    have o2 : okW (getV n k).text 65536 = true := okW_iff.2 ⟨⟨hl, by decide⟩, by decide⟩
    simp only [ef, eb, o2, Bool.not_true, cond_true, cond_false]
def anyK (_ : List UInt8) (_ : Node) : Prop := True
def kyL : List (List UInt8) := [tstK, intK, stpK, retK, disK]
def rTst (n : Node) : Node := bif getB n tstK then withV zn tstK (txtN (tsS (getV n tstK))) else zn
def rPut (n : Node) (k : List UInt8) (l : Int) (o : Node) : Node := bif !(spV n k l == []) then withV o k (txtN (spV n k l)) else o
def rRet (n o : Node) : Node := bif decide (0 < nuV n retK) then withV o retK (txtN (textV (nuV n retK))) else o
def rO (n : Node) : Node := rRet n (rPut n stpK 0 (rPut n intK 1 (rTst n)))
def rOff (n : Node) : List UInt8 := bif getB n tstK then (bif tsK (getV n tstK) == 2 then tru else fldV n disK fls) else fldV n disK fls
def rBad (n : Node) : Bool := bif (bif (bif (bif !(truB n disK fls) then true else !(spB n intK 1)) then true else !(spB n stpK 0)) then true else !(nuB n retK)) then true else decide ((10 : Int) < nuV n retK)
def rNo (n : Node) : Bool := bif !(onlB n kyL) then true else bif (bif getB n tstK then tsK (getV n tstK) == 0 else false) then true else rBad n
def disN : Node := ⟨3, [], [disK], [txtN tru]⟩
def rhV (n : Node) : Node := bif rNo n then zn else bif rOff n == tru then disN else doneV (rO n) true
def rhB (n : Node) : Bool := bif rNo n then false else bif rOff n == tru then true else doneB (rO n) true
def rD (o : Node) : Option (List (TV E)) := bif okDn o true then some [⟨.api_Node, doneV o true⟩, ⟨.bool, doneB o true⟩] else none
def rP3 (n o : Node) : Option (List (TV E)) := bif decide ((0 : Int) < nuV n retK) then (bif okI (nuV n retK) then (bif okWi o retK (txtN (textV (nuV n retK))) then rD (withV o retK (txtN (textV (nuV n retK)))) else none) else none) else rD o
def rP2 (n o : Node) : Option (List (TV E)) := bif !(spV n stpK 0 == []) then (bif okWi o stpK (txtN (spV n stpK 0)) then rP3 n (withV o stpK (txtN (spV n stpK 0))) else none) else rP3 n o
def rP1 (n o : Node) : Option (List (TV E)) := bif !(spV n intK 1 == []) then (bif okWi o intK (txtN (spV n intK 1)) then rP2 n (withV o intK (txtN (spV n intK 1))) else none) else rP2 n o
def rT (n : Node) (off : List UInt8) (o : Node) : Option (List (TV E)) := bif okSn n intK 1 then (bif okSn n stpK 0 then (bif okNu n retK then (bif rBad n then some [⟨.api_Node, zn⟩, ⟨.bool, false⟩] else (bif off == tru then some [⟨.api_Node, disN⟩, ⟨.bool, true⟩] else rP1 n o)) else none) else none) else none
noncomputable def q18health_W : FnW E := fn12 (E := E) .api_Node .api_Node .bool okH rhV rhB
def q18health_id : FuncId := 42
noncomputable def q18health_O : Oracle E := orac [(106, rtext_W), (102, rget_W), (92, rwith_W), (85, r18text_W), (93, r18done_W), (105, q18num_W), (99, q18only_W), (104, q18span_W), (103, q18test_W), (101, q18truth_W)] [] [] []
noncomputable def q18health_H : Hint E := Hint.mk [] [] [] [] []
noncomputable def q18health_t (_G : Nat → ASt E → Option (List (TV E))) (x0 : Node) : Option (List (TV E)) :=
  bif (okOn ⟨x0.kind, x0.text, x0.keys, x0.kids⟩ [([116, 101, 115, 116] : List UInt8), ([105, 110, 116, 101, 114, 118, 97, 108] : List UInt8), ([115, 116, 97, 114, 116, 95, 112, 101, 114, 105, 111, 100] : List UInt8), ([114, 101, 116, 114, 105, 101, 115] : List UInt8), ([100, 105, 115, 97, 98, 108, 101] : List UInt8)]) then (let y1 : Bool := (onlB ⟨x0.kind, x0.text, x0.keys, x0.kids⟩ [([116, 101, 115, 116] : List UInt8), ([105, 110, 116, 101, 114, 118, 97, 108] : List UInt8), ([115, 116, 97, 114, 116, 95, 112, 101, 114, 105, 111, 100] : List UInt8), ([114, 101, 116, 114, 105, 101, 115] : List UInt8), ([100, 105, 115, 97, 98, 108, 101] : List UInt8)]); bif (!y1) then some [⟨.api_Node, (⟨0, [], [], []⟩ : Node)⟩, ⟨.bool, false⟩] else (bif (okFl ⟨x0.kind, x0.text, x0.keys, x0.kids⟩ [100, 105, 115, 97, 98, 108, 101] [102, 97, 108, 115, 101]) then (let y2 : List UInt8 := (fldV ⟨x0.kind, x0.text, x0.keys, x0.kids⟩ [100, 105, 115, 97, 98, 108, 101] [102, 97, 108, 115, 101]); let y3 : Bool := (truB ⟨x0.kind, x0.text, x0.keys, x0.kids⟩ [100, 105, 115, 97, 98, 108, 101] [102, 97, 108, 115, 101]); bif ((fun n _ => fit n) (⟨x0.kind, x0.text, x0.keys, x0.kids⟩ : Node) ([116, 101, 115, 116] : List UInt8)) then (let y4 : Node := (getV ⟨x0.kind, x0.text, x0.keys, x0.kids⟩ [116, 101, 115, 116]); let y5 : Bool := (getB ⟨x0.kind, x0.text, x0.keys, x0.kids⟩ [116, 101, 115, 116]); bif y5 then (bif (okTs ⟨y4.kind, y4.text, y4.keys, y4.kids⟩) then (let y6 : List UInt8 := (tsS ⟨y4.kind, y4.text, y4.keys, y4.kids⟩); let y7 : Int := (tsK ⟨y4.kind, y4.text, y4.keys, y4.kids⟩); bif (y7 == (0 : Int)) then some [⟨.api_Node, (⟨0, [], [], []⟩ : Node)⟩, ⟨.bool, false⟩] else (bif (y7 == (2 : Int)) then (bif (okWi ⟨0, [], [], []⟩ [116, 101, 115, 116] (txtN y6)) then (let y8 : Node := (withV ⟨0, [], [], []⟩ [116, 101, 115, 116] (txtN y6)); bif (okSn ⟨x0.kind, x0.text, x0.keys, x0.kids⟩ [105, 110, 116, 101, 114, 118, 97, 108] 1) then (let y9 : List UInt8 := (spV ⟨x0.kind, x0.text, x0.keys, x0.kids⟩ [105, 110, 116, 101, 114, 118, 97, 108] 1); let y10 : Bool := (spB ⟨x0.kind, x0.text, x0.keys, x0.kids⟩ [105, 110, 116, 101, 114, 118, 97, 108] 1); bif (okSn ⟨x0.kind, x0.text, x0.keys, x0.kids⟩ [115, 116, 97, 114, 116, 95, 112, 101, 114, 105, 111, 100] 0) then (let y11 : List UInt8 := (spV ⟨x0.kind, x0.text, x0.keys, x0.kids⟩ [115, 116, 97, 114, 116, 95, 112, 101, 114, 105, 111, 100] 0); let y12 : Bool := (spB ⟨x0.kind, x0.text, x0.keys, x0.kids⟩ [115, 116, 97, 114, 116, 95, 112, 101, 114, 105, 111, 100] 0); bif (okNu ⟨x0.kind, x0.text, x0.keys, x0.kids⟩ [114, 101, 116, 114, 105, 101, 115]) then (let y13 : Int := (nuV ⟨x0.kind, x0.text, x0.keys, x0.kids⟩ [114, 101, 116, 114, 105, 101, 115]); let y14 : Bool := (nuB ⟨x0.kind, x0.text, x0.keys, x0.kids⟩ [114, 101, 116, 114, 105, 101, 115]); bif (bif (bif (bif (bif (!y3) then true else (!y10)) then true else (!y12)) then true else (!y14)) then true else (decide ((10 : Int) < y13))) then some [⟨.api_Node, (⟨0, [], [], []⟩ : Node)⟩, ⟨.bool, false⟩] else (let y15 : Node := (txtN [116, 114, 117, 101]); some [⟨.api_Node, (⟨3, [], [([100, 105, 115, 97, 98, 108, 101] : List UInt8)], [y15]⟩ : Node)⟩, ⟨.bool, true⟩])) else none) else none) else none) else none) else (bif (okWi ⟨0, [], [], []⟩ [116, 101, 115, 116] (txtN y6)) then (let y16 : Node := (withV ⟨0, [], [], []⟩ [116, 101, 115, 116] (txtN y6)); bif (okSn ⟨x0.kind, x0.text, x0.keys, x0.kids⟩ [105, 110, 116, 101, 114, 118, 97, 108] 1) then (let y17 : List UInt8 := (spV ⟨x0.kind, x0.text, x0.keys, x0.kids⟩ [105, 110, 116, 101, 114, 118, 97, 108] 1); let y18 : Bool := (spB ⟨x0.kind, x0.text, x0.keys, x0.kids⟩ [105, 110, 116, 101, 114, 118, 97, 108] 1); bif (okSn ⟨x0.kind, x0.text, x0.keys, x0.kids⟩ [115, 116, 97, 114, 116, 95, 112, 101, 114, 105, 111, 100] 0) then (let y19 : List UInt8 := (spV ⟨x0.kind, x0.text, x0.keys, x0.kids⟩ [115, 116, 97, 114, 116, 95, 112, 101, 114, 105, 111, 100] 0); let y20 : Bool := (spB ⟨x0.kind, x0.text, x0.keys, x0.kids⟩ [115, 116, 97, 114, 116, 95, 112, 101, 114, 105, 111, 100] 0); bif (okNu ⟨x0.kind, x0.text, x0.keys, x0.kids⟩ [114, 101, 116, 114, 105, 101, 115]) then (let y21 : Int := (nuV ⟨x0.kind, x0.text, x0.keys, x0.kids⟩ [114, 101, 116, 114, 105, 101, 115]); let y22 : Bool := (nuB ⟨x0.kind, x0.text, x0.keys, x0.kids⟩ [114, 101, 116, 114, 105, 101, 115]); bif (bif (bif (bif (bif (!y3) then true else (!y18)) then true else (!y20)) then true else (!y22)) then true else (decide ((10 : Int) < y21))) then some [⟨.api_Node, (⟨0, [], [], []⟩ : Node)⟩, ⟨.bool, false⟩] else (bif (y2 == ([116, 114, 117, 101] : List UInt8)) then (let y23 : Node := (txtN [116, 114, 117, 101]); some [⟨.api_Node, (⟨3, [], [([100, 105, 115, 97, 98, 108, 101] : List UInt8)], [y23]⟩ : Node)⟩, ⟨.bool, true⟩]) else (bif (!(y17 == ([] : List UInt8))) then (bif (okWi ⟨y16.kind, y16.text, y16.keys, y16.kids⟩ [105, 110, 116, 101, 114, 118, 97, 108] (txtN y17)) then (let y24 : Node := (withV ⟨y16.kind, y16.text, y16.keys, y16.kids⟩ [105, 110, 116, 101, 114, 118, 97, 108] (txtN y17)); bif (!(y19 == ([] : List UInt8))) then (bif (okWi ⟨y24.kind, y24.text, y24.keys, y24.kids⟩ [115, 116, 97, 114, 116, 95, 112, 101, 114, 105, 111, 100] (txtN y19)) then (let y25 : Node := (withV ⟨y24.kind, y24.text, y24.keys, y24.kids⟩ [115, 116, 97, 114, 116, 95, 112, 101, 114, 105, 111, 100] (txtN y19)); bif (decide ((0 : Int) < y21)) then (bif (okI y21) then (let y26 : Node := (txtN (textV y21)); bif (okWi ⟨y25.kind, y25.text, y25.keys, y25.kids⟩ [114, 101, 116, 114, 105, 101, 115] y26) then (let y27 : Node := (withV ⟨y25.kind, y25.text, y25.keys, y25.kids⟩ [114, 101, 116, 114, 105, 101, 115] y26); bif (okDn ⟨y27.kind, y27.text, y27.keys, y27.kids⟩ true) then (let y28 : Node := (doneV ⟨y27.kind, y27.text, y27.keys, y27.kids⟩ true); let y29 : Bool := (doneB ⟨y27.kind, y27.text, y27.keys, y27.kids⟩ true); some [⟨.api_Node, (⟨y28.kind, y28.text, y28.keys, y28.kids⟩ : Node)⟩, ⟨.bool, y29⟩]) else none) else none) else none) else (bif (okDn ⟨y25.kind, y25.text, y25.keys, y25.kids⟩ true) then (let y30 : Node := (doneV ⟨y25.kind, y25.text, y25.keys, y25.kids⟩ true); let y31 : Bool := (doneB ⟨y25.kind, y25.text, y25.keys, y25.kids⟩ true); some [⟨.api_Node, (⟨y30.kind, y30.text, y30.keys, y30.kids⟩ : Node)⟩, ⟨.bool, y31⟩]) else none)) else none) else (bif (decide ((0 : Int) < y21)) then (bif (okI y21) then (let y32 : Node := (txtN (textV y21)); bif (okWi ⟨y24.kind, y24.text, y24.keys, y24.kids⟩ [114, 101, 116, 114, 105, 101, 115] y32) then (let y33 : Node := (withV ⟨y24.kind, y24.text, y24.keys, y24.kids⟩ [114, 101, 116, 114, 105, 101, 115] y32); bif (okDn ⟨y33.kind, y33.text, y33.keys, y33.kids⟩ true) then (let y34 : Node := (doneV ⟨y33.kind, y33.text, y33.keys, y33.kids⟩ true); let y35 : Bool := (doneB ⟨y33.kind, y33.text, y33.keys, y33.kids⟩ true); some [⟨.api_Node, (⟨y34.kind, y34.text, y34.keys, y34.kids⟩ : Node)⟩, ⟨.bool, y35⟩]) else none) else none) else none) else (bif (okDn ⟨y24.kind, y24.text, y24.keys, y24.kids⟩ true) then (let y36 : Node := (doneV ⟨y24.kind, y24.text, y24.keys, y24.kids⟩ true); let y37 : Bool := (doneB ⟨y24.kind, y24.text, y24.keys, y24.kids⟩ true); some [⟨.api_Node, (⟨y36.kind, y36.text, y36.keys, y36.kids⟩ : Node)⟩, ⟨.bool, y37⟩]) else none))) else none) else (bif (!(y19 == ([] : List UInt8))) then (bif (okWi ⟨y16.kind, y16.text, y16.keys, y16.kids⟩ [115, 116, 97, 114, 116, 95, 112, 101, 114, 105, 111, 100] (txtN y19)) then (let y38 : Node := (withV ⟨y16.kind, y16.text, y16.keys, y16.kids⟩ [115, 116, 97, 114, 116, 95, 112, 101, 114, 105, 111, 100] (txtN y19)); bif (decide ((0 : Int) < y21)) then (bif (okI y21) then (let y39 : Node := (txtN (textV y21)); bif (okWi ⟨y38.kind, y38.text, y38.keys, y38.kids⟩ [114, 101, 116, 114, 105, 101, 115] y39) then (let y40 : Node := (withV ⟨y38.kind, y38.text, y38.keys, y38.kids⟩ [114, 101, 116, 114, 105, 101, 115] y39); bif (okDn ⟨y40.kind, y40.text, y40.keys, y40.kids⟩ true) then (let y41 : Node := (doneV ⟨y40.kind, y40.text, y40.keys, y40.kids⟩ true); let y42 : Bool := (doneB ⟨y40.kind, y40.text, y40.keys, y40.kids⟩ true); some [⟨.api_Node, (⟨y41.kind, y41.text, y41.keys, y41.kids⟩ : Node)⟩, ⟨.bool, y42⟩]) else none) else none) else none) else (bif (okDn ⟨y38.kind, y38.text, y38.keys, y38.kids⟩ true) then (let y43 : Node := (doneV ⟨y38.kind, y38.text, y38.keys, y38.kids⟩ true); let y44 : Bool := (doneB ⟨y38.kind, y38.text, y38.keys, y38.kids⟩ true); some [⟨.api_Node, (⟨y43.kind, y43.text, y43.keys, y43.kids⟩ : Node)⟩, ⟨.bool, y44⟩]) else none)) else none) else (bif (decide ((0 : Int) < y21)) then (bif (okI y21) then (let y45 : Node := (txtN (textV y21)); bif (okWi ⟨y16.kind, y16.text, y16.keys, y16.kids⟩ [114, 101, 116, 114, 105, 101, 115] y45) then (let y46 : Node := (withV ⟨y16.kind, y16.text, y16.keys, y16.kids⟩ [114, 101, 116, 114, 105, 101, 115] y45); bif (okDn ⟨y46.kind, y46.text, y46.keys, y46.kids⟩ true) then (let y47 : Node := (doneV ⟨y46.kind, y46.text, y46.keys, y46.kids⟩ true); let y48 : Bool := (doneB ⟨y46.kind, y46.text, y46.keys, y46.kids⟩ true); some [⟨.api_Node, (⟨y47.kind, y47.text, y47.keys, y47.kids⟩ : Node)⟩, ⟨.bool, y48⟩]) else none) else none) else none) else (bif (okDn ⟨y16.kind, y16.text, y16.keys, y16.kids⟩ true) then (let y49 : Node := (doneV ⟨y16.kind, y16.text, y16.keys, y16.kids⟩ true); let y50 : Bool := (doneB ⟨y16.kind, y16.text, y16.keys, y16.kids⟩ true); some [⟨.api_Node, (⟨y49.kind, y49.text, y49.keys, y49.kids⟩ : Node)⟩, ⟨.bool, y50⟩]) else none)))))) else none) else none) else none) else none))) else none) else (bif (okSn ⟨x0.kind, x0.text, x0.keys, x0.kids⟩ [105, 110, 116, 101, 114, 118, 97, 108] 1) then (let y51 : List UInt8 := (spV ⟨x0.kind, x0.text, x0.keys, x0.kids⟩ [105, 110, 116, 101, 114, 118, 97, 108] 1); let y52 : Bool := (spB ⟨x0.kind, x0.text, x0.keys, x0.kids⟩ [105, 110, 116, 101, 114, 118, 97, 108] 1); bif (okSn ⟨x0.kind, x0.text, x0.keys, x0.kids⟩ [115, 116, 97, 114, 116, 95, 112, 101, 114, 105, 111, 100] 0) then (let y53 : List UInt8 := (spV ⟨x0.kind, x0.text, x0.keys, x0.kids⟩ [115, 116, 97, 114, 116, 95, 112, 101, 114, 105, 111, 100] 0); let y54 : Bool := (spB ⟨x0.kind, x0.text, x0.keys, x0.kids⟩ [115, 116, 97, 114, 116, 95, 112, 101, 114, 105, 111, 100] 0); bif (okNu ⟨x0.kind, x0.text, x0.keys, x0.kids⟩ [114, 101, 116, 114, 105, 101, 115]) then (let y55 : Int := (nuV ⟨x0.kind, x0.text, x0.keys, x0.kids⟩ [114, 101, 116, 114, 105, 101, 115]); let y56 : Bool := (nuB ⟨x0.kind, x0.text, x0.keys, x0.kids⟩ [114, 101, 116, 114, 105, 101, 115]); bif (bif (bif (bif (bif (!y3) then true else (!y52)) then true else (!y54)) then true else (!y56)) then true else (decide ((10 : Int) < y55))) then some [⟨.api_Node, (⟨0, [], [], []⟩ : Node)⟩, ⟨.bool, false⟩] else (bif (y2 == ([116, 114, 117, 101] : List UInt8)) then (let y57 : Node := (txtN [116, 114, 117, 101]); some [⟨.api_Node, (⟨3, [], [([100, 105, 115, 97, 98, 108, 101] : List UInt8)], [y57]⟩ : Node)⟩, ⟨.bool, true⟩]) else (bif (!(y51 == ([] : List UInt8))) then (bif (okWi ⟨0, [], [], []⟩ [105, 110, 116, 101, 114, 118, 97, 108] (txtN y51)) then (let y58 : Node := (withV ⟨0, [], [], []⟩ [105, 110, 116, 101, 114, 118, 97, 108] (txtN y51)); bif (!(y53 == ([] : List UInt8))) then (bif (okWi ⟨y58.kind, y58.text, y58.keys, y58.kids⟩ [115, 116, 97, 114, 116, 95, 112, 101, 114, 105, 111, 100] (txtN y53)) then (let y59 : Node := (withV ⟨y58.kind, y58.text, y58.keys, y58.kids⟩ [115, 116, 97, 114, 116, 95, 112, 101, 114, 105, 111, 100] (txtN y53)); bif (decide ((0 : Int) < y55)) then (bif (okI y55) then (let y60 : Node := (txtN (textV y55)); bif (okWi ⟨y59.kind, y59.text, y59.keys, y59.kids⟩ [114, 101, 116, 114, 105, 101, 115] y60) then (let y61 : Node := (withV ⟨y59.kind, y59.text, y59.keys, y59.kids⟩ [114, 101, 116, 114, 105, 101, 115] y60); bif (okDn ⟨y61.kind, y61.text, y61.keys, y61.kids⟩ true) then (let y62 : Node := (doneV ⟨y61.kind, y61.text, y61.keys, y61.kids⟩ true); let y63 : Bool := (doneB ⟨y61.kind, y61.text, y61.keys, y61.kids⟩ true); some [⟨.api_Node, (⟨y62.kind, y62.text, y62.keys, y62.kids⟩ : Node)⟩, ⟨.bool, y63⟩]) else none) else none) else none) else (bif (okDn ⟨y59.kind, y59.text, y59.keys, y59.kids⟩ true) then (let y64 : Node := (doneV ⟨y59.kind, y59.text, y59.keys, y59.kids⟩ true); let y65 : Bool := (doneB ⟨y59.kind, y59.text, y59.keys, y59.kids⟩ true); some [⟨.api_Node, (⟨y64.kind, y64.text, y64.keys, y64.kids⟩ : Node)⟩, ⟨.bool, y65⟩]) else none)) else none) else (bif (decide ((0 : Int) < y55)) then (bif (okI y55) then (let y66 : Node := (txtN (textV y55)); bif (okWi ⟨y58.kind, y58.text, y58.keys, y58.kids⟩ [114, 101, 116, 114, 105, 101, 115] y66) then (let y67 : Node := (withV ⟨y58.kind, y58.text, y58.keys, y58.kids⟩ [114, 101, 116, 114, 105, 101, 115] y66); bif (okDn ⟨y67.kind, y67.text, y67.keys, y67.kids⟩ true) then (let y68 : Node := (doneV ⟨y67.kind, y67.text, y67.keys, y67.kids⟩ true); let y69 : Bool := (doneB ⟨y67.kind, y67.text, y67.keys, y67.kids⟩ true); some [⟨.api_Node, (⟨y68.kind, y68.text, y68.keys, y68.kids⟩ : Node)⟩, ⟨.bool, y69⟩]) else none) else none) else none) else (bif (okDn ⟨y58.kind, y58.text, y58.keys, y58.kids⟩ true) then (let y70 : Node := (doneV ⟨y58.kind, y58.text, y58.keys, y58.kids⟩ true); let y71 : Bool := (doneB ⟨y58.kind, y58.text, y58.keys, y58.kids⟩ true); some [⟨.api_Node, (⟨y70.kind, y70.text, y70.keys, y70.kids⟩ : Node)⟩, ⟨.bool, y71⟩]) else none))) else none) else (bif (!(y53 == ([] : List UInt8))) then (bif (okWi ⟨0, [], [], []⟩ [115, 116, 97, 114, 116, 95, 112, 101, 114, 105, 111, 100] (txtN y53)) then (let y72 : Node := (withV ⟨0, [], [], []⟩ [115, 116, 97, 114, 116, 95, 112, 101, 114, 105, 111, 100] (txtN y53)); bif (decide ((0 : Int) < y55)) then (bif (okI y55) then (let y73 : Node := (txtN (textV y55)); bif (okWi ⟨y72.kind, y72.text, y72.keys, y72.kids⟩ [114, 101, 116, 114, 105, 101, 115] y73) then (let y74 : Node := (withV ⟨y72.kind, y72.text, y72.keys, y72.kids⟩ [114, 101, 116, 114, 105, 101, 115] y73); bif (okDn ⟨y74.kind, y74.text, y74.keys, y74.kids⟩ true) then (let y75 : Node := (doneV ⟨y74.kind, y74.text, y74.keys, y74.kids⟩ true); let y76 : Bool := (doneB ⟨y74.kind, y74.text, y74.keys, y74.kids⟩ true); some [⟨.api_Node, (⟨y75.kind, y75.text, y75.keys, y75.kids⟩ : Node)⟩, ⟨.bool, y76⟩]) else none) else none) else none) else (bif (okDn ⟨y72.kind, y72.text, y72.keys, y72.kids⟩ true) then (let y77 : Node := (doneV ⟨y72.kind, y72.text, y72.keys, y72.kids⟩ true); let y78 : Bool := (doneB ⟨y72.kind, y72.text, y72.keys, y72.kids⟩ true); some [⟨.api_Node, (⟨y77.kind, y77.text, y77.keys, y77.kids⟩ : Node)⟩, ⟨.bool, y78⟩]) else none)) else none) else (bif (decide ((0 : Int) < y55)) then (bif (okI y55) then (let y79 : Node := (txtN (textV y55)); bif (okWi ⟨0, [], [], []⟩ [114, 101, 116, 114, 105, 101, 115] y79) then (let y80 : Node := (withV ⟨0, [], [], []⟩ [114, 101, 116, 114, 105, 101, 115] y79); bif (okDn ⟨y80.kind, y80.text, y80.keys, y80.kids⟩ true) then (let y81 : Node := (doneV ⟨y80.kind, y80.text, y80.keys, y80.kids⟩ true); let y82 : Bool := (doneB ⟨y80.kind, y80.text, y80.keys, y80.kids⟩ true); some [⟨.api_Node, (⟨y81.kind, y81.text, y81.keys, y81.kids⟩ : Node)⟩, ⟨.bool, y82⟩]) else none) else none) else none) else (bif (okDn ⟨0, [], [], []⟩ true) then (let y83 : Node := (doneV ⟨0, [], [], []⟩ true); let y84 : Bool := (doneB ⟨0, [], [], []⟩ true); some [⟨.api_Node, (⟨y83.kind, y83.text, y83.keys, y83.kids⟩ : Node)⟩, ⟨.bool, y84⟩]) else none)))))) else none) else none) else none)) else none) else none)) else none
theorem q18health_e (G : Nat → ASt E → Option (List (TV E))) (x0 : Node) : runE q18health_O q18health_H G Tryz.f42 [⟨.api_Node, x0⟩] = q18health_t G x0 := by kernel_rfl
theorem q18health_f : Tryz.prog.funcs[42]? = some Tryz.f42 := by kernel_rfl
theorem q18health_n : (Tryz.f42.name == "runtime.NumGoroutine") = false := by kernel_rfl
theorem q18health_b : Tryz.f42.body.isNone = false := by kernel_rfl
theorem q18health_hO : OracleOk E q18health_O := orac_ok (.cons rtext_ok (.cons rget_ok (.cons rwith_ok (.cons r18text_ok (.cons r18done_ok (.cons q18num_ok (.cons q18only_ok (.cons q18span_ok (.cons q18test_ok (.cons q18truth_ok .nil)))))))))) .nil .nil .nil
theorem q18health_ok_of (h : ∀ (x0 : Node), okH x0 = true → q18health_t (Gr E Tryz.f42 [⟨.api_Node, rhV x0⟩, ⟨.bool, rhB x0⟩]) x0 = some [⟨.api_Node, rhV x0⟩, ⟨.bool, rhB x0⟩]) : FnOk E q18health_id q18health_W := fn12_ok q18health_hO mix q18health_f q18health_n q18health_b (fun x0 hk => (q18health_e _ x0).trans (h x0 hk))
theorem rD_ok {o : Node} {L : Nat} (h : Bq anyK 2 L o) (hL : L ≤ 1000) : rD o = some [⟨.api_Node, doneV o true⟩, ⟨.bool, doneB o true⟩] := by
  unfold rD
  rw [h.done_ok (by decide) true]; rfl
theorem rP_ok {n o : Node} {L : Nat} (h : Bq anyK 2 L o) (hL : L ≤ 100) (hI : okI (nuV n retK) = true) : rP1 n o = some [⟨.api_Node, doneV (rRet n (rPut n stpK 0 (rPut n intK 1 o))) true⟩, ⟨.bool, doneB (rRet n (rPut n stpK 0 (rPut n intK 1 o))) true⟩] := by
  have p3 : ∀ {o : Node} {L : Nat}, Bq anyK 2 L o → L ≤ 102 → rP3 n o = some [⟨.api_Node, doneV (rRet n o) true⟩, ⟨.bool, doneB (rRet n o) true⟩] := fun h hL => by
    unfold rP3 rRet
    rw [hI, h.ok (by omega)]
    cases decide ((0 : Int) < nuV n retK) with
    | true => exact rD_ok (h.put trivial (txtN_wg _ 1)) (by omega)
    | false => exact rD_ok h (by omega)
  have p2 : ∀ {o : Node} {L : Nat}, Bq anyK 2 L o → L ≤ 101 → rP2 n o = some [⟨.api_Node, doneV (rRet n (rPut n stpK 0 o)) true⟩, ⟨.bool, doneB (rRet n (rPut n stpK 0 o)) true⟩] := fun h hL => by
    unfold rP2 rPut
    rw [h.ok (by omega)]
    cases spV n stpK 0 == [] with
    | true => exact p3 h (by omega)
    | false => exact p3 (h.put trivial (txtN_wg _ 1)) (by omega)
  unfold rP1
  rw [h.ok (by omega)]
  conv => rhs; unfold rPut
  cases spV n intK 1 == [] with
  | true => exact p2 h (by omega)
  | false => exact p2 (h.put trivial (txtN_wg _ 1)) (by omega)
theorem q18health_ok : FnOk E q18health_id q18health_W := q18health_ok_of fun n hk => by
  obtain ⟨hf, h1, h2, h3, h4⟩ := okH_iff.1 hk
  have ho : okOn n kyL = true := by
    simp only [okOn, Bool.and_eq_true]
    exact ⟨ln6_iff.2 (fit_iff.1 hf).1.1, rfl⟩
  have o1 : okFl n disK fls = true := hf
  have o2 : okSn n intK 1 = true := by simp only [okSn, hf, Bool.true_and]; exact decide_eq_true h1
  have o3 : okSn n stpK 0 = true := by simp only [okSn, hf, Bool.true_and]; exact decide_eq_true h2
  have o4 : okNu n retK = true := by simp only [okNu, hf, Bool.true_and]; exact decide_eq_true h3
  have hI : okI (nuV n retK) = true := decide_eq_true (by
    unfold nuV
    cases getB n retK with
    | true =>
      have := cnt_bd (getV n retK).text 65536 (by decide)
      simp only [cond_true]; omega
    | false => simp only [cond_false]; omega)
  have tail : ∀ (off : List UInt8) (o : Node) (L : Nat), Bq anyK 2 L o → L ≤ 100 → rT n off o = some [⟨.api_Node, bif rBad n then zn else bif off == tru then disN else doneV (rRet n (rPut n stpK 0 (rPut n intK 1 o))) true⟩, ⟨.bool, bif rBad n then false else bif off == tru then true else doneB (rRet n (rPut n stpK 0 (rPut n intK 1 o))) true⟩] := fun off o L hq hL => by
    unfold rT
    rw [o2, o3, o4]
    simp only [cond_true]
    cases rBad n with
    | true => rfl
    | false =>
      cases off == tru with
      | true => rfl
      | false => exact rP_ok hq hL hI
  have hz : Bq anyK 2 0 zn := Bq.nil (.inl rfl)
  have e : q18health_t (Gr E Tryz.f42 [⟨.api_Node, rhV n⟩, ⟨.bool, rhB n⟩]) n = (bif okOn n kyL then (bif !(onlB n kyL) then some [⟨.api_Node, zn⟩, ⟨.bool, false⟩] else (bif okFl n disK fls then (bif fit n then (bif getB n tstK then (bif okTs (getV n tstK) then (bif tsK (getV n tstK) == 0 then some [⟨.api_Node, zn⟩, ⟨.bool, false⟩] else (bif tsK (getV n tstK) == 2 then (bif okWi zn tstK (txtN (tsS (getV n tstK))) then rT n tru (withV zn tstK (txtN (tsS (getV n tstK)))) else none) else (bif okWi zn tstK (txtN (tsS (getV n tstK))) then rT n (fldV n disK fls) (withV zn tstK (txtN (tsS (getV n tstK)))) else none))) else none) else rT n (fldV n disK fls) zn) else none) else none)) else none) := by
    simp only [q18health_t, node_eta]
    rfl
  rw [e, ho, o1, hf, h4, hz.ok (by decide)]
  unfold rhV rhB rNo rOff rO rTst
  cases onlB n kyL with
  | false => rfl
  | true =>
    simp only [cond_true, cond_false, Bool.not_true]
    cases getB n tstK with
    | false => exact tail _ _ 0 hz (by decide)
    | true =>
      simp only [cond_true, cond_false]
      cases tsK (getV n tstK) == 0 with
      | true => rfl
      | false =>
        have hq := hz.put (k := tstK) (v := txtN (tsS (getV n tstK))) trivial (txtN_wg _ 1)
        cases tsK (getV n tstK) == 2 with
        | true => exact tail _ _ 1 hq (by decide)
        | false => exact tail _ _ 1 hq (by decide)
end Go.Proofs.YtgniedpgdjmfpaaGreatDoor.Rf
namespace Go.Proofs.YtgniedpgdjmfpaaGreatDoor.Rf
open Go Go.RowKit Go.Sort Go.Proofs.YtgniedpgdjmfpaaGreatDoor.Mir
theorem left_kd : ∀ (n : Nat) (x : Node) (d l : Int), d + (n + 1 : Nat) = 14 → 0 ≤ leftV (n + 1) x d l → kd n x = true
  | n, x, d, l, hd, h => by
    unfold leftV at h
    cases h1 : badA x d (l - 1) with
    | true => rw [h1, cond_true] at h; omega
    | false =>
      cases h2 : badB x with
      | true => rw [h1, h2, cond_false, cond_true] at h; omega
      | false =>
        cases h3 : badC x (l - 1) with
        | true => rw [h1, h2, h3, cond_false, cond_false, cond_true] at h; omega
        | false =>
          rw [h1, h2, h3, cond_false, cond_false, cond_false] at h
          have hA : ¬ 12 < d ∧ 0 ≤ x.kind ∧ x.kind ≤ 3 := by
            unfold badA at h1
            refine ⟨fun a => ?_, ?_⟩
            · rw [dT a] at h1
              cases hx : decide (l - 1 < 0) <;> rw [hx] at h1 <;> cases h1
            · by_cases a : x.kind < 0
              · rw [dT a] at h1
                cases hx : decide (l - 1 < 0) <;> cases hy : decide (12 < d) <;> rw [hx, hy] at h1 <;> cases h1
              · by_cases b : 3 < x.kind
                · rw [dT b] at h1
                  cases hx : decide (l - 1 < 0) <;> cases hy : decide (12 < d) <;> cases hz : decide (x.kind < 0) <;> rw [hx, hy, hz] at h1 <;> cases h1
                · omega
          obtain ⟨m, rfl⟩ : ∃ m, n = m + 1 := ⟨n - 1, by omega⟩
          obtain ⟨q1, q2⟩ := kidsV_le (fun k l h => leftV_le (m + 1) k (d + 1) l h) x.kids (l - 1) h
          have hrec : ∀ y ∈ x.kids, kd m y = true := fun y hy => by
            obtain ⟨l', h4, h5⟩ := q2 y hy
            exact left_kd m y (d + 1) l' (by omega) h4
          have hB : (x.kind ≠ 3 → x.keys.length = 0) ∧ (x.kind < 2 → x.kids.length = 0) := by
            unfold badB at h2
            constructor
            · intro e
              by_cases a1 : (0 : Int) < (x.keys.length : Int)
              · rw [neT e, dT a1] at h2
                cases hx : (bif x.kind != 1 then decide ((0 : Int) < (x.text.length : Int)) else false) <;> rw [hx] at h2 <;> cases h2
              · omega
            · intro e
              by_cases a1 : (0 : Int) < (x.kids.length : Int)
              · rw [dT e, dT a1] at h2
                cases hx : (bif x.kind != 1 then decide ((0 : Int) < (x.text.length : Int)) else false) <;> cases hy : (bif x.kind != 3 then decide ((0 : Int) < (x.keys.length : Int)) else false) <;> rw [hx, hy] at h2 <;> cases h2
              · omega
          exact kd_iff.2 ⟨⟨hA.2, hB.1⟩, hB.2, hrec⟩
  termination_by n => n
theorem small_nd_ {x : Node} {m : Int} (hm : m ≤ 200) (h : smallV x m = true) : okNd 12 x = true := by
  have hw := small_wf hm h
  unfold smallV at h
  by_cases h0 : 0 ≤ leftV 13 x 1 m
  · simp only [okNd, hw, left_kd 12 x 1 m (by decide) h0, Bool.and_self]
  · rw [dF h0] at h; cases h
theorem sameW_refl {f : Node → Node → Bool} : ∀ (l : List Node), (∀ x ∈ l, f x x = true) → sameW f l l = true
  | [], _ => rfl
  | a :: t, h => by
    unfold sameW
    rw [h a List.mem_cons_self, sameW_refl t fun x hx => h x (List.mem_cons_of_mem _ hx)]
    rfl
theorem same_refl : ∀ (n : Nat) (x : Node), dp n x = true → same n x x = true
  | 0, _, h => by cases h
  | n + 1, x, h => by
    unfold same
    rw [sameW_refl x.kids fun y hy => same_refl n y ((dp_iff.1 h).2 y hy)]
    simp
theorem nd_le : ∀ (m l : List (List UInt8)), m.Nodup → (∀ x ∈ m, x ∈ l) → m.length ≤ l.length
  | [], _, _, _ => Nat.zero_le _
  | a :: t, l, hn, hs => by
    have hn' := List.nodup_cons.1 hn
    have ha := hs a List.mem_cons_self
    have := nd_le t (l.erase a) hn'.2 fun x hx => (List.mem_erase_of_ne (fun e => by subst e; exact hn'.1 hx)).2 (hs x (List.mem_cons_of_mem _ hx))
    rw [List.length_erase_of_mem ha] at this
    have h1 := List.length_pos_of_mem ha
    simp only [List.length_cons]; omega
theorem nd_of : ∀ (l m : List (List UInt8)), m.Nodup → (∀ x, x ∈ m ↔ x ∈ l) → m.length = l.length → l.Nodup
  | [], _, _, _, _ => List.nodup_nil
  | a :: t, m, hn, hm, hl => by
    have hat : a ∉ t := fun ha => by
      have := nd_le m t hn fun x hx => by
        rcases List.mem_cons.1 ((hm x).1 hx) with rfl | h
        · exact ha
        · exact h
      simp only [List.length_cons] at hl; omega
    have ham : a ∈ m := (hm a).2 List.mem_cons_self
    refine List.nodup_cons.2 ⟨hat, nd_of t (m.erase a) (hn.erase a) (fun x => ?_) (by rw [List.length_erase_of_mem ham, hl]; rfl)⟩
    rw [hn.mem_erase_iff, hm x, List.mem_cons]
    constructor
    · rintro ⟨h1, h2⟩
      exact h2.resolve_left h1
    · intro h
      exact ⟨(fun e => by subst e; exact hat h), .inr h⟩
theorem nodup_of_sort {l : List (List UInt8)} (h : (Pl.sortD l).length = l.length) : l.Nodup :=
  nd_of l (Pl.sortD l) (ss_nodup (Pl.sortD_spec l).1) (fun _ => Pl.sortD_mem) h
theorem zn_wg12 : wg 10000 12 zn = true := zn_wg 11
theorem okS_wg {a : Node} (h : wg 10000 12 a = true) : okS 12 a a = true := by simp only [okS, wg_dp (by decide) h, Bool.and_self]
noncomputable def awake_W : FnW E := fn0 (E := E) .bool true true
def awake_id : FuncId := 5
noncomputable def awake_O : Oracle E := orac [(9, nports_W)] [] [] []
noncomputable def awake_H : Hint E := Hint.mk [] [] [] [] []
noncomputable def awake_t (_G : Nat → ASt E → Option (List (TV E)))  : Option (List (TV E)) :=
  bif (okPo ⟨2, [], [], [(⟨1, [56, 48, 56, 48, 58, 56, 48], [], []⟩ : Node)]⟩) then (bif (okPo ⟨1, [56, 48, 56, 48, 58, 56, 48], [], []⟩) then (bif ((decide ((0 : Int) ≤ (0 : Int)) && decide ((0 : Int) < (((poV ⟨2, [], [], [(⟨1, [56, 48, 56, 48, 58, 56, 48], [], []⟩ : Node)]⟩).keys).length : Int))) || !(bif ((poE ⟨2, [], [], [(⟨1, [56, 48, 56, 48, 58, 56, 48], [], []⟩ : Node)]⟩) == (0 : Int)) then ((((poV ⟨2, [], [], [(⟨1, [56, 48, 56, 48, 58, 56, 48], [], []⟩ : Node)]⟩).keys).length : Int) == (1 : Int)) else false)) then some [⟨.bool, (bif (bif (bif ((poE ⟨2, [], [], [(⟨1, [56, 48, 56, 48, 58, 56, 48], [], []⟩ : Node)]⟩) == (0 : Int)) then ((((poV ⟨2, [], [], [(⟨1, [56, 48, 56, 48, 58, 56, 48], [], []⟩ : Node)]⟩).keys).length : Int) == (1 : Int)) else false) then ((List.getD ((poV ⟨2, [], [], [(⟨1, [56, 48, 56, 48, 58, 56, 48], [], []⟩ : Node)]⟩).keys) (Int.toNat 0) (dflt .str)) == ([56, 48, 56, 48, 58, 56, 48] : List UInt8)) else false) then ((poE ⟨1, [56, 48, 56, 48, 58, 56, 48], [], []⟩) == (10 : Int)) else false)⟩] else none) else none) else none
theorem awake_e (G : Nat → ASt E → Option (List (TV E)))  : runE awake_O awake_H G Tryz.f5 [] = awake_t G  := by kernel_rfl
theorem awake_f : Tryz.prog.funcs[5]? = some Tryz.f5 := by kernel_rfl
theorem awake_n : (Tryz.f5.name == "runtime.NumGoroutine") = false := by kernel_rfl
theorem awake_b : Tryz.f5.body.isNone = false := by kernel_rfl
theorem awake_hO : OracleOk E awake_O := orac_ok (.cons nports_ok .nil) .nil .nil .nil
theorem awake_ok_of (h : awake_t (Gr E Tryz.f5 [⟨.bool, true ⟩])  = some [⟨.bool, true ⟩]) : FnOk E awake_id awake_W := fn0_ok awake_hO mix awake_f awake_n awake_b (fun _ => (awake_e _).trans h)
theorem awake_ok : FnOk E awake_id awake_W := awake_ok_of <| by
  have e : awake_t (Gr E Tryz.f5 [⟨.bool, true⟩]) = some [⟨.bool, true⟩] := by kernel_rfl
  exact e
end Go.Proofs.YtgniedpgdjmfpaaGreatDoor.Rf
namespace Go.Proofs.YtgniedpgdjmfpaaGreatDoor.Rf
open Go Go.RowKit Go.Sort Go.Proofs.YtgniedpgdjmfpaaGreatDoor.Mir
theorem filt_len {ks L : List (List UInt8)} (hk : ks.Nodup) (hL : L.Nodup) : ((L.filter (fun k => inV ks k)).length = ks.length) ↔ (ks.all fun k => inV L k) = true := by
  have hF : (L.filter (fun k => inV ks k)).Nodup := hL.filter _
  have hFk : ∀ x ∈ L.filter (fun k => inV ks k), x ∈ ks := fun x hx => inV_iff.1 (List.mem_filter.1 hx).2
  have hle := nd_le _ ks hF hFk
  rw [List.all_eq_true]
  constructor
  · intro he k hkm
    cases hb : inV L k with
    | true => rfl
    | false =>
      exfalso
      have hnL : k ∉ L := fun h => by rw [inV_iff.2 h] at hb; cases hb
      have := nd_le _ (ks.erase k) hF fun x hx => (List.mem_erase_of_ne (fun e => by subst e; exact hnL (List.mem_filter.1 hx).1)).2 (hFk x hx)
      rw [List.length_erase_of_mem hkm] at this
      have := List.length_pos_of_mem hkm
      omega
  · intro ha
    have := nd_le ks _ hk fun x hx => List.mem_filter.2 ⟨inV_iff.1 (ha x hx), inV_iff.2 hx⟩
    omega
theorem getB_in {m : Node} (h3 : m.kind = 3) (hl : m.keys.length = m.kids.length) (k : List UInt8) : getB m k = inV m.keys k := by
  unfold getB get
  rw [if_pos h3]; exact lk_there hl
def tf (s : List UInt8) : Bool := (s == tru) || (s == fls)
theorem ntf_tf (s : List UInt8) : ntf s = !(tf s) := by unfold ntf tf; cases s == tru <;> cases s == fls <;> rfl
theorem tru_tf (m : Node) (k o : List UInt8) : truB m k o = (fldB m k [] && tf (fldV m k o)) := by
  have e : truB m k o = (bif fldB m k [] then (bif fldV m k o == tru then true else fldV m k o == fls) else false) := rfl
  rw [e]; unfold tf
  cases fldB m k [] <;> cases fldV m k o == tru <;> rfl
theorem lf5 {m : Node} (h3 : m.kind = 3) (hl : m.keys.length = m.kids.length) (hn : m.keys.Nodup) : (hLf m == 0) = onlB m kyL := by
  have h := filt_len hn (show kyL.Nodup by decide)
  have e : ((kyL.filter fun k => inV m.keys k).length : Int) = (((b2 (inV m.keys tstK) + b2 (inV m.keys intK)) + b2 (inV m.keys stpK)) + b2 (inV m.keys retK)) + b2 (inV m.keys disK) := by
    unfold kyL
    cases h1 : inV m.keys tstK <;> cases h2 : inV m.keys intK <;> cases h4 : inV m.keys stpK <;> cases h5 : inV m.keys retK <;> cases h6 : inV m.keys disK <;> simp [List.filter, h1, h2, h4, h5, h6, b2]
  unfold hLf onlB
  rw [getB_in h3 hl, getB_in h3 hl, getB_in h3 hl, getB_in h3 hl, getB_in h3 hl, neF h3, cond_false]
  cases ha : (m.keys.all fun k => inV kyL k) with
  | true => have := h.2 ha; exact eqT (by omega)
  | false =>
    refine eqF fun h0 => ?_
    have := h.1 (by omega)
    rw [this] at ha; cases ha
theorem spB_eq (n : Node) (l : Int) (k : List UInt8) (hl : l ≤ 1000) : spB n k l = ((fldB n k [] && (durE (fldV n k oneS) == 0)) && decide (l ≤ durV (fldV n k oneS))) := by
  have e1 : durE oneS = 0 := by decide
  have e2 : durV oneS = 1000 := by decide
  unfold spB fldB fldV
  cases getB n k with
  | false =>
    simp only [Bool.not_false, cond_true, cond_false, e1, e2]
    rw [dT hl]; rfl
  | true =>
    simp only [Bool.not_true, cond_true, cond_false]
    cases (getV n k).kind == 1 <;> cases durE (getV n k).text == 0 <;> rfl
theorem cnt0 : cntE zerS 65536 = 0 ∧ cntV zerS 65536 = 0 := by decide
theorem nuV_eq (n : Node) : nuV n retK = hCnt n := by
  unfold nuV hCnt fldV
  cases getB n retK with
  | false => rw [Bool.not_false, cond_true, cond_false, cnt0.2]
  | true => rfl
theorem bdR_eq (n : Node) (b : Bool) : bdR n b = (bif (bif b then true else !(nuB n retK)) then true else decide ((10 : Int) < nuV n retK)) := by
  rw [nuV_eq]
  have hb := cnt_bd (getV n retK).text 65536 (by decide)
  unfold bdR nuB hCnt fldB fldV
  cases getB n retK with
  | false => simp only [Bool.not_false, cond_true, cond_false, cnt0.1, cnt0.2]; cases b <;> rfl
  | true =>
    simp only [Bool.not_true, cond_true, cond_false]
    have hz : (cntV (getV n retK).text 65536 == 0) = !(decide (0 < cntV (getV n retK).text 65536)) := by
      by_cases h : cntV (getV n retK).text 65536 = 0
      · rw [eqT h, dF (by omega)]; rfl
      · rw [eqF h, dT (by omega)]; rfl
    rw [hz, show (cntE (getV n retK).text 65536 != 0) = !(cntE (getV n retK).text 65536 == 0) from rfl]
    cases b <;> cases (getV n retK).kind == 1 <;> cases cntE (getV n retK).text 65536 == 0 <;> cases decide (0 < cntV (getV n retK).text 65536) <;> rfl
def Gh0 (n : Node) : Prop := n.kind = 3 → n.keys.length = n.kids.length ∧ n.keys.Nodup
theorem no_eq {n : Node} (hn : Gh0 n) : (hBad n || !(hLf n == 0)) = rNo n := by
  by_cases h3 : n.kind = 3
  · obtain ⟨hl, hd⟩ := hn h3
    rw [lf5 h3 hl hd]
    unfold hBad rNo rBad
    rw [bdR_eq]
    have hI := durV_bd (fldV n intK oneS)
    have hS := durV_bd (fldV n stpK oneS)
    rw [spB_eq n 1 intK (by decide), spB_eq n 0 stpK (by decide), tru_tf, dT hS.1]
    unfold bdS bdI bdS bdT bdD
    rw [neF h3, ntf_tf]
    have hz : (durV (fldV n intK oneS) == 0) = !(decide ((1 : Int) ≤ durV (fldV n intK oneS))) := by
      by_cases h : durV (fldV n intK oneS) = 0
      · rw [eqT h, dF (by omega)]; rfl
      · rw [eqF h, dT (by omega)]; rfl
    have hr : tsR (getV n tstK) = !(tsK (getV n tstK) == 0) := rfl
    rw [hz, hr, show (durE (fldV n intK oneS) != 0) = !(durE (fldV n intK oneS) == 0) from rfl, show (durE (fldV n stpK oneS) != 0) = !(durE (fldV n stpK oneS) == 0) from rfl]
    generalize fldB n disK [] = x1
    generalize tf (fldV n disK fls) = x2
    generalize getB n tstK = x3
    generalize (tsK (getV n tstK) == 0) = x4
    generalize fldB n intK [] = x5
    generalize (durE (fldV n intK oneS) == 0) = x6
    generalize decide ((1 : Int) ≤ durV (fldV n intK oneS)) = x7
    generalize fldB n stpK [] = x8
    generalize (durE (fldV n stpK oneS) == 0) = x9
    generalize nuB n retK = x10
    generalize decide ((10 : Int) < nuV n retK) = x11
    generalize onlB n kyL = x12
    cases x12 with
    | false => simp
    | true =>
      cases x1 with
      | false => cases x3 <;> cases x4 <;> rfl
      | true =>
        cases x2 with
        | false => cases x3 <;> cases x4 <;> rfl
        | true =>
          cases x3 with
          | false => cases x5 <;> cases x6 <;> cases x7 <;> cases x8 <;> cases x9 <;> cases x10 <;> cases x11 <;> rfl
          | true =>
            cases x4 with
            | true => cases x5 <;> cases x6 <;> cases x7 <;> cases x8 <;> cases x9 <;> cases x10 <;> cases x11 <;> rfl
            | false => cases x5 <;> cases x6 <;> cases x7 <;> cases x8 <;> cases x9 <;> cases x10 <;> cases x11 <;> rfl
  · have o : onlB n kyL = false := by unfold onlB; rw [neT h3]; rfl
    have b : hBad n = true := by
      have hD : bdD n = true := by unfold bdD; rw [neT h3]; rfl
      have hT : bdT n (bdD n) = true := by unfold bdT; rw [hD]; rfl
      have hI : bdI n (bdT n (bdD n)) = true := by unfold bdI bdS; rw [hT]; rfl
      have hS : bdS n stpK (bdI n (bdT n (bdD n))) = true := by unfold bdS; rw [hI]; rfl
      unfold hBad bdR
      rw [hS]; rfl
    unfold rNo
    rw [b, o]; rfl
theorem off_eq {n : Node} (h : rNo n = false) : hOff n = (rOff n == tru) := by
  unfold rNo at h
  cases ho : onlB n kyL with
  | false => rw [ho] at h; cases h
  | true =>
    rw [ho] at h
    unfold hOff rOff
    cases hg : getB n tstK with
    | false => simp only [cond_false]; cases fldV n disK fls == tru <;> rfl
    | true =>
      rw [hg] at h
      simp only [cond_true, cond_false, Bool.not_true] at h ⊢
      cases hk : tsK (getV n tstK) == 0 with
      | true => rw [hk] at h; cases h
      | false =>
        have : tsN (getV n tstK) = (tsK (getV n tstK) == 2) := by
          unfold tsK at hk
          unfold tsN tsK
          cases hq : (getV n tstK).kind == 1 with
          | true => rfl
          | false =>
            rw [hq, cond_false] at hk
            rw [cond_false, cond_false]
            cases hx : tsX (getV n tstK) with
            | true => rw [hx] at hk; cases hk
            | false =>
              rw [hx, cond_false] at hk
              rw [cond_false, cond_false]
              cases hn : (txsL (getV n tstK)).getD 0 [] == nonS with
              | true =>
                rw [hn, cond_true] at hk
                rw [cond_true]
                cases hl : (((txsL (getV n tstK)).length : Int) == 1) with
                | true => rfl
                | false => rw [hl] at hk; cases hk
              | false =>
                rw [cond_false]
                cases (txsL (getV n tstK)).getD 0 [] == shlS with
                | true => rw [cond_true]; cases (((txsL (getV n tstK)).length : Int) == 2) <;> rfl
                | false =>
                  rw [cond_false]
                  cases (txsL (getV n tstK)).getD 0 [] == cmdS with
                  | true => rw [cond_true]; cases decide ((1 : Int) < ((txsL (getV n tstK)).length : Int)) <;> rfl
                  | false => rfl
        rw [this]
        cases tsK (getV n tstK) == 2 with
        | true =>
          rw [cond_true, show (tru == tru) = true from rfl]
          cases fldV n disK fls == tru <;> rfl
        | false =>
          rw [cond_false]
          cases fldV n disK fls == tru <;> rfl
theorem dt_ne {n : Int} (h0 : 0 ≤ n) (h1 : n ≤ 1099511627776) : (dtV n == []) = false := by
  cases h : dtV n with
  | cons c t => rfl
  | nil =>
    have := dur_text h0 h1
    rw [h] at this
    have e : durP [] = (0, 3) := by decide
    rw [e] at this
    injection this with _ h2
    exact absurd h2 (by decide)
theorem spV_there (n : Node) (k : List UInt8) (l : Int) : (!(spV n k l == [])) = getB n k := by
  unfold spV
  cases getB n k with
  | false => rfl
  | true => rw [cond_true, dt_ne (durV_bd _).1 (durV_bd _).2]; rfl
def isK (k : List UInt8) : Prop := k ∈ kyL
def isT1 (y : Node) : Prop := y = txtN y.text
theorem isT1_wk (y : Node) (h : isT1 y) : wg 10000 11 y = true ∧ kd 11 y = true := by
  rw [h]; exact ⟨txtN_wg _ 10, by simp [kd, txtN]⟩
theorem isT1_s (y : Node) (h : isT1 y) : sortN 11 y = y := by rw [h]; rfl
def oPut (b : Bool) (k : List UInt8) (v o : Node) : Node := bif b then withV o k v else o
theorem oPut_iv {b : Bool} {k : List UInt8} {v o : Node} (h : Iv isK isT1 o) (hk : isK k) (hv : isT1 v) : Iv isK isT1 (oPut b k v o) := by
  unfold oPut
  cases b with
  | true => exact h.put hk hv
  | false => exact h
theorem oPut_lk {b : Bool} {k : List UInt8} {v o : Node} (h : Iv isK isT1 o) (q : List UInt8) : lk (oPut b k v o).keys (oPut b k v o).kids q = if q = k then (bif b then some v else lk o.keys o.kids q) else lk o.keys o.kids q := by
  unfold oPut
  cases b with
  | true => rw [cond_true, withV_lk h.kind h.len]; rfl
  | false =>
    rw [cond_false, cond_false]
    split <;> rfl
theorem rO_put (n : Node) : rO n = oPut (decide (0 < nuV n retK)) retK (txtN (textV (nuV n retK))) (oPut (getB n stpK) stpK (txtN (spV n stpK 0)) (oPut (getB n intK) intK (txtN (spV n intK 1)) (oPut (getB n tstK) tstK (txtN (tsS (getV n tstK))) zn))) := by
  unfold rO rRet rPut rTst oPut
  rw [spV_there, spV_there]
theorem kyT : isK tstK ∧ isK intK ∧ isK stpK ∧ isK retK ∧ isK disK := by unfold isK; decide
theorem isT1_txt (s : List UInt8) : isT1 (txtN s) := rfl
theorem oT_iv (b : Bool) (v : Node) (hv : isT1 v) : Iv isK isT1 (oPut b tstK v zn) := oPut_iv Iv.nil kyT.1 hv
theorem oI_iv (b c : Bool) (v u : Node) (hv : isT1 v) (hu : isT1 u) : Iv isK isT1 (oPut c intK u (oPut b tstK v zn)) := oPut_iv (oT_iv b v hv) kyT.2.1 hu
theorem oS_iv (b c d : Bool) (v u t : Node) (hv : isT1 v) (hu : isT1 u) (ht : isT1 t) : Iv isK isT1 (oPut d stpK t (oPut c intK u (oPut b tstK v zn))) := oPut_iv (oI_iv b c v u hv hu) kyT.2.2.1 ht
theorem rO_iv (n : Node) : Iv isK isT1 (rO n) := by
  rw [rO_put]
  exact oPut_iv (oS_iv _ _ _ _ _ _ rfl rfl rfl) kyT.2.2.2.1 rfl
def hL (n : Node) (q : List UInt8) : Option Node := if q = retK then (bif decide (0 < nuV n retK) then some (txtN (textV (nuV n retK))) else none)
  else if q = stpK then (bif getB n stpK then some (txtN (spV n stpK 0)) else none)
  else if q = intK then (bif getB n intK then some (txtN (spV n intK 1)) else none)
  else if q = tstK then (bif getB n tstK then some (txtN (tsS (getV n tstK))) else none) else none
theorem rO_lk (n : Node) (q : List UInt8) : lk (rO n).keys (rO n).kids q = hL n q := by
  rw [rO_put, oPut_lk (oS_iv _ _ _ _ _ _ (isT1_txt _) (isT1_txt _) (isT1_txt _)), oPut_lk (oI_iv _ _ _ _ (isT1_txt _) (isT1_txt _)), oPut_lk (oT_iv _ _ (isT1_txt _)), oPut_lk Iv.nil]
  unfold hL
  have hz : lk zn.keys zn.kids q = none := rfl
  rw [hz]
  by_cases h1 : q = retK
  · subst h1
    simp only [if_true, if_neg (show retK ≠ stpK by decide), if_neg (show retK ≠ intK by decide), if_neg (show retK ≠ tstK by decide)]
  · simp only [if_neg h1]
    by_cases h2 : q = stpK
    · subst h2
      simp only [if_true, if_neg (show stpK ≠ intK by decide), if_neg (show stpK ≠ tstK by decide)]
    · simp only [if_neg h2]
      by_cases h3 : q = intK
      · subst h3
        simp only [if_true, if_neg (show intK ≠ tstK by decide)]
      · simp only [if_neg h3]
theorem hO_eq (n : Node) : hO n = rO n := by
  have e1 : hTst n zn = rTst n := by
    unfold hTst rTst
    cases getB n tstK with
    | true => exact Iv.nil.with_ (ψ := isK) (φ := isT1) _ _
    | false => rfl
  have i1 : Iv isK isT1 (rTst n) := by
    have : rTst n = oPut (getB n tstK) tstK (txtN (tsS (getV n tstK))) zn := rfl
    rw [this]; exact oT_iv _ _ rfl
  have ep : ∀ (k : List UInt8) (l : Int) (o : Node), Iv isK isT1 o → hPut n k o = rPut n k l o := fun k l o h => by
    unfold hPut rPut
    rw [spV_there]
    have : spV n k l = bif getB n k then dtV (durV (getV n k).text) else [] := rfl
    cases hg : getB n k with
    | false => rfl
    | true =>
      rw [this, hg, cond_true, cond_true, cond_true, h.with_]
      have : fldV n k oneS = (getV n k).text := by unfold fldV; rw [hg]; rfl
      rw [this]; rfl
  have i2 : Iv isK isT1 (rPut n intK 1 (rTst n)) := by
    unfold rPut
    cases !(spV n intK 1 == []) with
    | true => exact i1.put kyT.2.1 rfl
    | false => exact i1
  have i3 : Iv isK isT1 (rPut n stpK 0 (rPut n intK 1 (rTst n))) := by
    conv => rhs; unfold rPut
    cases !(spV n stpK 0 == []) with
    | true => exact i2.put kyT.2.2.1 rfl
    | false => exact i2
  unfold hO rO
  rw [e1, ep intK 1 _ i1, ep stpK 0 _ i2]
  unfold hRet rRet
  rw [nuV_eq]
  cases decide (0 < hCnt n) with
  | true => exact i3.with_ _ _
  | false => rfl
theorem dis_done : dnV (withP zn disK (saidV true)) false = disN ∧ dnE (withP zn disK (saidV true)) false = 0 := by
  have e : withP zn disK (saidV true) = withV zn disK (txtN tru) := Iv.nil.with_ (ψ := isK) (φ := isT1) _ _
  have i : Iv isK isT1 (withV zn disK (txtN tru)) := Iv.nil.put kyT.2.2.2.2 rfl
  rw [e]
  obtain ⟨h1, h2⟩ := i.dn isT1_wk
  have hm : withV zn disK (txtN tru) = disN := withV_new (.inl rfl) rfl (by simp [zn]) _
  have sd : Sf isK isT1 disN := ⟨rfl, rfl, by unfold Pl.SS; decide, rfl, by decide, fun k hk => by rw [List.mem_singleton.1 hk]; exact kyT.2.2.2.2, fun y hy => by rw [List.mem_singleton.1 hy]; rfl⟩
  obtain ⟨q1, q2⟩ := done_form (o' := withV zn disK (txtN tru)) sd isT1_s (by rw [hm]; rfl) (by rw [hm]) (by rw [hm])
  rw [h1, h2, q1, q2]
  exact ⟨rfl, rfl⟩
theorem health_eq {n : Node} (hn : Gh0 n) : hV n = rhV n ∧ hE n = (bif rhB n then 0 else 10) := by
  unfold hV hE hP hFin rhV rhB
  rw [no_eq hn]
  cases h : rNo n with
  | true => exact ⟨rfl, rfl⟩
  | false =>
    rw [off_eq h]
    simp only [cond_false]
    cases rOff n == tru with
    | true => exact dis_done
    | false =>
      rw [hO_eq]
      exact (rO_iv n).dn isT1_wk
theorem rO_le (n : Node) (hb : doneB (rO n) true = true) : (rO n).keys.length ≤ 32 := by
  unfold doneB at hb
  simp only [Bool.not_true, cond_false, Bool.not_eq_true', decide_eq_false_iff_not] at hb
  omega
theorem form_lk {o : Node} (h : Iv isK isT1 o) (q : List UInt8) : get (sortN 12 (mapN o)) q = lk o.keys o.kids q := by
  have e : sortN 12 (mapN o) = ⟨3, o.text, Pl.sortD o.keys, (Pl.sortD o.keys).map fun k => sortN 11 (getV (mapN o) k)⟩ := rfl
  rw [e]
  have : get (⟨3, o.text, Pl.sortD o.keys, (Pl.sortD o.keys).map fun k => sortN 11 (getV (mapN o) k)⟩ : Node) q = lk (Pl.sortD o.keys) ((Pl.sortD o.keys).map fun k => sortN 11 (getV (mapN o) k)) q := if_pos rfl
  rw [this]
  have hg : get (mapN o) q = lk o.keys o.kids q := if_pos rfl
  by_cases hq : q ∈ o.keys
  · rw [lk_map _ _ (Pl.sortD_mem.2 hq)]
    have hs : (lk o.keys o.kids q).isSome = true := by rw [lk_there h.len]; exact inV_iff.2 hq
    cases hl : lk o.keys o.kids q with
    | none => rw [hl] at hs; cases hs
    | some y =>
      have hv : getV (mapN o) q = y := by unfold getV; rw [hg, hl]; rfl
      have hb : getB (mapN o) q = true := by unfold getB; rw [hg, hl]; rfl
      rw [isT1_s _ (h.kid _ (getV_mem (a := mapN o) hb)), hv]
  · have h1 : lk o.keys o.kids q = none := lk_none h.len hq
    have h2 : lk (Pl.sortD o.keys) ((Pl.sortD o.keys).map fun k => sortN 11 (getV (mapN o) k)) q = none := lk_none (by simp) (fun hm => hq (Pl.sortD_mem.1 hm))
    rw [h1, h2]
theorem done_get {o a : Node} (h : Iv isK isT1 o) (ha : Sf isK isT1 a) (he : ∀ q, lk o.keys o.kids q = get a q) : doneV o true = a ∧ doneB o true = true := by
  have hga : ∀ q, get a q = lk a.keys a.kids q := fun q => if_pos ha.kind
  have hmem : ∀ q, q ∈ o.keys ↔ q ∈ a.keys := fun q => by
    have h1 := lk_there (k := q) h.len
    have h2 := lk_there (k := q) ha.len
    rw [he, hga, h2] at h1
    rw [← inV_iff, ← inV_iff, h1]
  have hs : Pl.sortD o.keys = a.keys := Pl.sortD_eq ha.ss fun q => (hmem q).symm
  have hlen : o.keys.length ≤ 32 := by
    have := nd_le o.keys a.keys h.nd fun x hx => (hmem x).1 hx
    have := ha.le
    omega
  have hb : doneB o true = true := by
    unfold doneB
    rw [Bool.not_true, cond_false, dF (show ¬ (32 : Int) < (o.keys.length : Int) by omega)]
    rfl
  refine ⟨?_, hb⟩
  unfold doneV
  rw [hb, cond_true]
  have e : sortN 12 (mapN o) = ⟨3, o.text, Pl.sortD o.keys, (Pl.sortD o.keys).map fun k => sortN 11 (getV (mapN o) k)⟩ := rfl
  have e2 : sortN 12 a = ⟨3, a.text, Pl.sortD a.keys, (Pl.sortD a.keys).map fun k => sortN 11 (getV a k)⟩ := by
    show (bif a.kind == 3 then _ else _) = _
    rw [eqT ha.kind, cond_true, ha.kind]
  have hv : ∀ k, getV (mapN o) k = getV a k := fun k => by
    unfold getV
    rw [← he k]
    have : get (mapN o) k = lk o.keys o.kids k := if_pos rfl
    rw [this]
  rw [← ha.sorted isT1_s, e, e2, hs, h.text, ha.text, show Pl.sortD a.keys = a.keys from Pl.sortD_eq ha.ss fun _ => Iff.rfl]
  congr 1
  exact List.map_congr_left fun k _ => by rw [hv]
structure Fh (n a : Node) : Prop where
  sf : Sf isK isT1 a
  lk_ : ∀ q, get a q = hL n q
theorem nuV_bd (n : Node) : 0 ≤ nuV n retK ∧ nuV n retK ≤ 65536 := by rw [nuV_eq]; exact cnt_bd _ _ (by decide)
theorem Fh.b {n a : Node} (h : Fh n a) : (getB a retK = decide (0 < nuV n retK) ∧ getB a stpK = getB n stpK ∧ getB a intK = getB n intK ∧ getB a tstK = getB n tstK ∧ getB a disK = false) := by
  unfold getB
  rw [h.lk_, h.lk_, h.lk_, h.lk_, h.lk_]
  unfold hL
  simp only [if_true, if_neg (show stpK ≠ retK by decide), if_neg (show intK ≠ retK by decide), if_neg (show intK ≠ stpK by decide), if_neg (show tstK ≠ retK by decide), if_neg (show tstK ≠ stpK by decide), if_neg (show tstK ≠ intK by decide), if_neg (show disK ≠ retK by decide), if_neg (show disK ≠ stpK by decide), if_neg (show disK ≠ intK by decide), if_neg (show disK ≠ tstK by decide)]
  refine ⟨?_, ?_, ?_, ?_, rfl⟩
  · cases decide (0 < nuV n retK) <;> rfl
  · cases hg : getB n stpK <;> (unfold getB at hg; rw [hg]; rfl)
  · cases hg : getB n intK <;> (unfold getB at hg; rw [hg]; rfl)
  · cases hg : getB n tstK <;> (unfold getB at hg; rw [hg]; rfl)
theorem Fh.v {n a : Node} (h : Fh n a) : (0 < nuV n retK → getV a retK = txtN (textV (nuV n retK))) ∧ (getB n stpK = true → getV a stpK = txtN (spV n stpK 0)) ∧ (getB n intK = true → getV a intK = txtN (spV n intK 1)) ∧ (getB n tstK = true → getV a tstK = txtN (tsS (getV n tstK))) := by
  unfold getV
  rw [h.lk_, h.lk_, h.lk_, h.lk_]
  unfold hL
  simp only [if_true, if_neg (show stpK ≠ retK by decide), if_neg (show intK ≠ retK by decide), if_neg (show intK ≠ stpK by decide), if_neg (show tstK ≠ retK by decide), if_neg (show tstK ≠ stpK by decide), if_neg (show tstK ≠ intK by decide)]
  refine ⟨fun g => ?_, fun g => ?_, fun g => ?_, fun g => ?_⟩
  · rw [dT g]; rfl
  · rw [g]; rfl
  · rw [g]; rfl
  · rw [g]; rfl
theorem Fh.sp {n a : Node} (h : Fh n a) : spV a intK 1 = spV n intK 1 ∧ spV a stpK 0 = spV n stpK 0 ∧ (∀ l, spB n intK l = true → spB a intK l = true) ∧ (∀ l, spB n stpK l = true → spB a stpK l = true) := by
  obtain ⟨b1, b2, b3, b4, b5⟩ := h.b
  obtain ⟨v1, v2, v3, v4⟩ := h.v
  have key : ∀ (k : List UInt8) (l : Int), getB a k = getB n k → (getB n k = true → getV a k = txtN (spV n k l)) → spV a k l = spV n k l ∧ ∀ l', spB n k l' = true → spB a k l' = true := fun k l hb hv => by
    unfold spV spB
    rw [hb]
    cases hg : getB n k with
    | false => exact ⟨rfl, fun _ _ => rfl⟩
    | true =>
      have hd := durV_bd (getV n k).text
      have hv := hv hg
      have hx : spV n k l = dtV (durV (getV n k).text) := by unfold spV; rw [hg]; rfl
      have ht : (getV a k).text = dtV (durV (getV n k).text) := by rw [hv, hx]; rfl
      have hk : (getV a k).kind = 1 := by rw [hv]; rfl
      have hp := dur_text hd.1 hd.2
      have p1 : durV (dtV (durV (getV n k).text)) = durV (getV n k).text := by
        show (durP (dtV (durV (getV n k).text))).1 = _
        rw [hp]
      have p2 : durE (dtV (durV (getV n k).text)) = 0 := by
        show (durP (dtV (durV (getV n k).text))).2 = _
        rw [hp]
      simp only [cond_true]
      rw [ht, hk, p1, p2]
      refine ⟨rfl, fun l' hl' => ?_⟩
      cases h1 : (bif (getV n k).kind == 1 then durE (getV n k).text == 0 else false) with
      | false => rw [h1] at hl'; cases hl'
      | true => rw [h1] at hl'; exact hl'
  obtain ⟨i1, i2⟩ := key intK 1 b3 v3
  obtain ⟨s1, s2⟩ := key stpK 0 b2 v2
  exact ⟨i1, s1, i2, s2⟩
theorem Fh.nu {n a : Node} (h : Fh n a) : nuV a retK = nuV n retK ∧ nuB a retK = true := by
  obtain ⟨b1, _⟩ := h.b
  obtain ⟨v1, _⟩ := h.v
  have hb := nuV_bd n
  have eb : nuB a retK = bif getB a retK then (bif (bif (getV a retK).kind == 1 then cntE (getV a retK).text 65536 == 0 else false) then decide (0 < cntV (getV a retK).text 65536) else false) else true := rfl
  have ev : nuV a retK = bif getB a retK then cntV (getV a retK).text 65536 else 0 := rfl
  rw [eb, ev, b1]
  by_cases hp : 0 < nuV n retK
  · have ht := text_cnt hb.1 hb.2 (by omega)
    have t1 : cntV (textV (nuV n retK)) 65536 = nuV n retK := congrArg Prod.fst ht
    have t2 : cntE (textV (nuV n retK)) 65536 = 0 := congrArg Prod.snd ht
    rw [dT hp, v1 hp]
    show cntV (textV (nuV n retK)) 65536 = nuV n retK ∧ (bif (bif (1 : Int) == 1 then cntE (textV (nuV n retK)) 65536 == 0 else false) then decide (0 < cntV (textV (nuV n retK)) 65536) else false) = true
    rw [t1, t2, dT hp]
    exact ⟨rfl, rfl⟩
  · rw [dF hp]
    exact ⟨by show (0 : Int) = _; omega, rfl⟩
theorem Fh.lks {n a : Node} (h : Fh n a) (q : List UInt8) : hL a q = hL n q := by
  obtain ⟨b1, b2, b3, b4, b5⟩ := h.b
  obtain ⟨v1, v2, v3, v4⟩ := h.v
  obtain ⟨s1, s2, _⟩ := h.sp
  unfold hL
  rw [h.nu.1, b2, b3, b4, s1, s2]
  cases hg : getB n tstK with
  | false => rfl
  | true => rw [v4 hg]; rfl
theorem health_self {n a : Node} (h : Fh n a) (hno : rNo n = false) : rhV a = a ∧ rhB a = true := by
  obtain ⟨b1, b2, b3, b4, b5⟩ := h.b
  obtain ⟨v1, v2, v3, v4⟩ := h.v
  obtain ⟨s1, s2, s3, s4⟩ := h.sp
  have hk : (bif getB a tstK then tsK (getV a tstK) == 0 else false) = false ∧ rOff a = fls := by
    have fd : fldV a disK fls = fls := by unfold fldV; rw [b5]; rfl
    unfold rOff
    rw [b4, fd]
    cases hg : getB n tstK with
    | false => exact ⟨rfl, rfl⟩
    | true => rw [v4 hg]; exact ⟨rfl, rfl⟩
  have ho : onlB a kyL = true := by
    unfold onlB
    rw [neF h.sf.kind, cond_false, List.all_eq_true]
    exact fun k hk => inV_iff.2 (h.sf.key k hk)
  have ht : truB a disK fls = true := by
    have fd : fldV a disK fls = fls := by unfold fldV; rw [b5]; rfl
    have fb : fldB a disK [] = true := by unfold fldB; rw [b5]; rfl
    rw [tru_tf, fb, fd]; rfl
  have hbad : rBad n = false := by
    unfold rNo at hno
    cases h1 : onlB n kyL with
    | false => rw [h1] at hno; cases hno
    | true =>
      rw [h1] at hno
      cases h2 : (bif getB n tstK then tsK (getV n tstK) == 0 else false) with
      | true => rw [h2] at hno; cases hno
      | false => rw [h2] at hno; exact hno
  have hparts : spB n intK 1 = true ∧ spB n stpK 0 = true ∧ decide ((10 : Int) < nuV n retK) = false := by
    unfold rBad at hbad
    cases h1 : truB n disK fls <;> cases h2 : spB n intK 1 <;> cases h3 : spB n stpK 0 <;> cases h4 : nuB n retK <;> cases h5 : decide ((10 : Int) < nuV n retK) <;> rw [h1, h2, h3, h4, h5] at hbad <;> first | (cases hbad; done) | exact ⟨rfl, rfl, rfl⟩
  have hna : rNo a = false := by
    unfold rNo rBad
    rw [ho, hk.1, ht, s3 1 hparts.1, s4 0 hparts.2.1, h.nu.2, h.nu.1, hparts.2.2]
    rfl
  obtain ⟨d1, d2⟩ := done_get (rO_iv a) h.sf fun q => by rw [rO_lk, h.lks, h.lk_]
  unfold rhV rhB
  rw [hna, hk.2, d1, d2]
  exact ⟨rfl, rfl⟩
theorem form_fh {n : Node} (hb : doneB (rO n) true = true) : Fh n (doneV (rO n) true) := by
  have h32 := rO_le n hb
  have e : doneV (rO n) true = sortN 12 (mapN (rO n)) := by unfold doneV; rw [hb]; rfl
  rw [e]
  exact ⟨(rO_iv n).form isT1_s h32, fun q => by rw [form_lk (rO_iv n), rO_lk]⟩
theorem disN_self : rhV disN = disN ∧ rhB disN = true := by
  have h1 : rNo disN = false := by decide
  have h2 : rOff disN = tru := by decide
  unfold rhV rhB
  rw [h1, h2]
  exact ⟨rfl, rfl⟩
end Go.Proofs.YtgniedpgdjmfpaaGreatDoor.Rf
namespace Go.Proofs.YtgniedpgdjmfpaaGreatDoor.Rf
open Go Go.RowKit Go.Sort Go.Proofs.YtgniedpgdjmfpaaGreatDoor.Mir
theorem left_kid {n : Nat} {x : Node} {d l : Int} (hd : d + ((n + 1 : Nat) + 1 : Nat) = 14) (h : 0 ≤ leftV (n + 1 + 1) x d l) : ∀ y ∈ x.kids, ∃ l', 0 ≤ leftV (n + 1) y (d + 1) l' := by
  unfold leftV at h
  cases h1 : badA x d (l - 1) with
  | true => rw [h1, cond_true] at h; omega
  | false =>
    cases h2 : badB x with
    | true => rw [h1, h2, cond_false, cond_true] at h; omega
    | false =>
      cases h3 : badC x (l - 1) with
      | true => rw [h1, h2, h3, cond_false, cond_false, cond_true] at h; omega
      | false =>
        rw [h1, h2, h3, cond_false, cond_false, cond_false] at h
        obtain ⟨q1, q2⟩ := kidsV_le (fun k l h => leftV_le (n + 1) k (d + 1) l h) x.kids (l - 1) h
        intro y hy
        obtain ⟨l', h4, _⟩ := q2 y hy
        exact ⟨l', h4⟩
theorem left_top {n : Nat} {x : Node} {d l : Int} (h : 0 ≤ leftV (n + 1) x d l) : (x.kind = 3 → x.keys.length = x.kids.length ∧ x.keys.Nodup) ∧ (x.kind ≠ 1 → x.text = []) := by
  unfold leftV at h
  cases h1 : badA x d (l - 1) with
  | true => rw [h1, cond_true] at h; omega
  | false =>
    cases h2 : badB x with
    | true => rw [h1, h2, cond_false, cond_true] at h; omega
    | false =>
      cases hc : badC x (l - 1) with
      | true => rw [h1, h2, hc, cond_false, cond_false, cond_true] at h; omega
      | false =>
        constructor
        · intro h3
          unfold badC at hc
          rw [eqT h3, cond_true] at hc
          by_cases e : ((Pl.sortD x.keys).length : Int) = (x.keys.length : Int)
          · refine ⟨?_, nodup_of_sort (by omega)⟩
            by_cases e2 : (x.keys.length : Int) = (x.kids.length : Int)
            · omega
            · rw [neT e2] at hc; cases hc
          · rw [neT e] at hc
            cases hq : (bif (x.keys.length : Int) != (x.kids.length : Int) then true else decide (l - 1 < (x.kids.length : Int))) <;> rw [hq] at hc <;> cases hc
        · intro h1k
          unfold badB at h2
          rw [neT h1k, cond_true] at h2
          by_cases e : (0 : Int) < (x.text.length : Int)
          · rw [dT e] at h2; cases h2
          · exact List.eq_nil_of_length_eq_zero (by omega)
structure Sm (n : Node) : Prop where
  wf_ : wf 200 12 n = true
  kd_ : kd 12 n = true
  top : (n.kind = 3 → n.keys.length = n.kids.length ∧ n.keys.Nodup) ∧ (n.kind ≠ 1 → n.text = [])
  sub : ∀ y ∈ n.kids, (y.kind = 3 → y.keys.length = y.kids.length ∧ y.keys.Nodup) ∧ (y.kind ≠ 1 → y.text = [])
theorem sm_of {n : Node} {m : Int} (hm : m ≤ 200) (h : smallV n m = true) : Sm n := by
  have h1 := small_nd_ hm h
  simp only [okNd, Bool.and_eq_true] at h1
  unfold smallV at h
  by_cases h0 : 0 ≤ leftV 13 n 1 m
  · refine ⟨h1.1, h1.2, left_top h0, fun y hy => ?_⟩
    obtain ⟨l', h2⟩ := left_kid (n := 11) (by decide) h0 y hy
    exact left_top h2
  · rw [dF h0] at h; cases h
theorem Sm.kid {n y : Node} (g : Sm n) (hy : y ∈ n.kids) : kd 11 y = true ∧ wf 200 11 y = true := ⟨(kd_iff.1 g.kd_).2.2 y hy, (wf_iff.1 g.wf_).2.2.2.2.2 y hy⟩
theorem Sm.lens {n : Node} (g : Sm n) : n.keys.length ≤ 200 ∧ n.kids.length ≤ 200 ∧ (∀ k ∈ n.keys, k.length ≤ 200) ∧ ∀ y ∈ n.kids, y.text.length ≤ 200 := by
  have := wf_iff.1 g.wf_
  exact ⟨this.1, this.2.1, this.2.2.2.2.1, fun y hy => (wf_iff.1 (g.kid hy).2).2.2.2.1⟩
theorem dtV_len (n : Int) : (dtV n).length ≤ 92 := by
  unfold dtV
  cases (bif decide (n < 0) then true else decide ((1099511627776 : Int) < n)) with
  | true => exact Nat.zero_le _
  | false =>
    rw [cond_false]
    cases n == 0 with
    | true => exact (by decide : ([48, 115] : List UInt8).length ≤ 92)
    | false =>
      rw [cond_false]
      have h : ∀ (k i : Nat) (m : Int), (txF k i m).length ≤ 23 * k := fun k => by
        induction k with
        | zero => intro i m; exact Nat.zero_le _
        | succ k ih =>
          intro i m
          rw [txF, List.length_append]
          have := tpc_len m i
          have := ih (i + 1) (m % (lgN i : Int))
          omega
      exact h 4 0 n
theorem okH_of {n : Node} (hf : fit n = true) (hx : ∀ k o, o.length ≤ 1000000 → k = intK ∨ k = stpK ∨ k = retK → (fldV n k o).length ≤ 1000000) (ht : okTs (getV n tstK) = true) : okH n = true :=
  okH_iff.2 ⟨hf, hx _ _ (by decide) (.inl rfl), hx _ _ (by decide) (.inr (.inl rfl)), hx _ _ (by decide) (.inr (.inr rfl)), ht⟩
theorem Sm.oh {n : Node} (g : Sm n) : okH n = true := by
  refine okH_of (wf_fit g.wf_ (by decide)) (fun k o ho _ => ?_) ?_
  · unfold fldV
    cases hb : getB n k with
    | false => exact ho
    | true => exact Nat.le_trans (g.lens.2.2.2 _ (getV_mem hb)) (by decide)
  · cases hb : getB n tstK with
    | false =>
      have : getV n tstK = zn := by
        unfold getB at hb
        unfold getV
        cases hg : get n tstK with
        | none => rfl
        | some _ => rw [hg] at hb; cases hb
      rw [this]; rfl
    | true =>
      have w := wf_iff.1 (g.kid (getV_mem hb)).2
      exact okTs_iff.2 ⟨Nat.le_trans w.2.1 (by decide), fun s hs => Nat.le_trans (txsL_txt (B := 200) (fun z hz => (wf_iff.1 (w.2.2.2.2.2 z hz)).2.2.2.1) s hs) (by decide)⟩
theorem Sm.gh {n : Node} (g : Sm n) : Gh0 n := g.top.1
theorem Fh.oh {n a : Node} (h : Fh n a) : okH a = true := by
  obtain ⟨b1, b2, b3, b4, b5⟩ := h.b
  obtain ⟨v1, v2, v3, v4⟩ := h.v
  have sp : ∀ k l, (spV n k l).length ≤ 1000000 := fun k l => by
    unfold spV
    cases getB n k with
    | false => exact Nat.zero_le _
    | true =>
      have := dtV_len (durV (getV n k).text)
      rw [cond_true]; omega
  refine okH_of (wg_fit (h.sf.wg_ isT1_wk) (by decide)) (fun k o ho hk => ?_) ?_
  · unfold fldV
    cases hb : getB a k with
    | false => exact ho
    | true =>
      show (getV a k).text.length ≤ 1000000
      rcases hk with rfl | rfl | rfl
      · rw [v3 (by rw [← b3]; exact hb)]; exact sp intK 1
      · rw [v2 (by rw [← b2]; exact hb)]; exact sp stpK 0
      · rw [v1 (by rw [b1] at hb; exact of_decide_eq_true hb)]
        exact Nat.le_trans (textV_len (nuV n retK)) (by decide)
  · cases hb : getB a tstK with
    | false =>
      have : getV a tstK = zn := by
        unfold getB at hb
        unfold getV
        cases hg : get a tstK with
        | none => rfl
        | some _ => rw [hg] at hb; cases hb
      rw [this]; rfl
    | true => rw [v4 (by rw [← b4]; exact hb)]; rfl
theorem Fh.gh {n a : Node} (h : Fh n a) : Gh0 a := fun _ => ⟨h.sf.len, ss_nodup h.sf.ss⟩
def okFd (n : Node) (k : Int) : Bool := (k == 13) && okH n
def fdV (n : Node) (_ : Int) : Node := hV n
def fdE (n : Node) (_ : Int) : Int := hE n
noncomputable def lfield_W : FnW E := fn22 (E := E) .api_Node .int .api_Node .api_Errno okFd fdV fdE
def lfield_id : FuncId := 10
noncomputable def lfield_O : Oracle E := orac [(33, nhealth_W), (9, nports_W), (29, nset_W)] [] [] []
noncomputable def lfield_H : Hint E := Hint.mk [] [] [] [] []
noncomputable def lfield_t (_G : Nat → ASt E → Option (List (TV E))) (x0 : Node) (x1 : Int) : Option (List (TV E)) :=
  bif (x1 == (0 : Int)) then none else (bif (x1 == (1 : Int)) then none else (bif (x1 == (2 : Int)) then none else (bif (x1 == (3 : Int)) then none else (bif (x1 == (4 : Int)) then none else (bif (x1 == (5 : Int)) then none else (bif (x1 == (6 : Int)) then (bif (x1 == (6 : Int)) then none else (bif (x1 == (8 : Int)) then (bif (okSet ⟨x0.kind, x0.text, x0.keys, x0.kids⟩) then some [⟨.api_Node, (⟨(setVn ⟨x0.kind, x0.text, x0.keys, x0.kids⟩).kind, (setVn ⟨x0.kind, x0.text, x0.keys, x0.kids⟩).text, (setVn ⟨x0.kind, x0.text, x0.keys, x0.kids⟩).keys, (setVn ⟨x0.kind, x0.text, x0.keys, x0.kids⟩).kids⟩ : Node)⟩, ⟨.api_Errno, (setEn ⟨x0.kind, x0.text, x0.keys, x0.kids⟩)⟩] else none) else (bif (x1 == (9 : Int)) then (bif (okPo ⟨x0.kind, x0.text, x0.keys, x0.kids⟩) then some [⟨.api_Node, (⟨(poV ⟨x0.kind, x0.text, x0.keys, x0.kids⟩).kind, (poV ⟨x0.kind, x0.text, x0.keys, x0.kids⟩).text, (poV ⟨x0.kind, x0.text, x0.keys, x0.kids⟩).keys, (poV ⟨x0.kind, x0.text, x0.keys, x0.kids⟩).kids⟩ : Node)⟩, ⟨.api_Errno, (poE ⟨x0.kind, x0.text, x0.keys, x0.kids⟩)⟩] else none) else (bif (x1 == (10 : Int)) then none else (bif (x1 == (11 : Int)) then none else (bif (x1 == (12 : Int)) then none else (bif (okH ⟨x0.kind, x0.text, x0.keys, x0.kids⟩) then some [⟨.api_Node, (⟨(hV ⟨x0.kind, x0.text, x0.keys, x0.kids⟩).kind, (hV ⟨x0.kind, x0.text, x0.keys, x0.kids⟩).text, (hV ⟨x0.kind, x0.text, x0.keys, x0.kids⟩).keys, (hV ⟨x0.kind, x0.text, x0.keys, x0.kids⟩).kids⟩ : Node)⟩, ⟨.api_Errno, (hE ⟨x0.kind, x0.text, x0.keys, x0.kids⟩)⟩] else none))))))) else (bif (x1 == (7 : Int)) then none else (bif (x1 == (8 : Int)) then (bif (okSet ⟨x0.kind, x0.text, x0.keys, x0.kids⟩) then some [⟨.api_Node, (⟨(setVn ⟨x0.kind, x0.text, x0.keys, x0.kids⟩).kind, (setVn ⟨x0.kind, x0.text, x0.keys, x0.kids⟩).text, (setVn ⟨x0.kind, x0.text, x0.keys, x0.kids⟩).keys, (setVn ⟨x0.kind, x0.text, x0.keys, x0.kids⟩).kids⟩ : Node)⟩, ⟨.api_Errno, (setEn ⟨x0.kind, x0.text, x0.keys, x0.kids⟩)⟩] else none) else (bif (x1 == (9 : Int)) then (bif (okPo ⟨x0.kind, x0.text, x0.keys, x0.kids⟩) then some [⟨.api_Node, (⟨(poV ⟨x0.kind, x0.text, x0.keys, x0.kids⟩).kind, (poV ⟨x0.kind, x0.text, x0.keys, x0.kids⟩).text, (poV ⟨x0.kind, x0.text, x0.keys, x0.kids⟩).keys, (poV ⟨x0.kind, x0.text, x0.keys, x0.kids⟩).kids⟩ : Node)⟩, ⟨.api_Errno, (poE ⟨x0.kind, x0.text, x0.keys, x0.kids⟩)⟩] else none) else (bif (x1 == (10 : Int)) then none else (bif (x1 == (11 : Int)) then none else (bif (x1 == (12 : Int)) then none else (bif (okH ⟨x0.kind, x0.text, x0.keys, x0.kids⟩) then some [⟨.api_Node, (⟨(hV ⟨x0.kind, x0.text, x0.keys, x0.kids⟩).kind, (hV ⟨x0.kind, x0.text, x0.keys, x0.kids⟩).text, (hV ⟨x0.kind, x0.text, x0.keys, x0.kids⟩).keys, (hV ⟨x0.kind, x0.text, x0.keys, x0.kids⟩).kids⟩ : Node)⟩, ⟨.api_Errno, (hE ⟨x0.kind, x0.text, x0.keys, x0.kids⟩)⟩] else none)))))))))))))
theorem lfield_e (G : Nat → ASt E → Option (List (TV E))) (x0 : Node) (x1 : Int) : runE lfield_O lfield_H G Tryz.f10 [⟨.api_Node, x0⟩, ⟨.int, x1⟩] = lfield_t G x0 x1 := by kernel_rfl
theorem lfield_f : Tryz.prog.funcs[10]? = some Tryz.f10 := by kernel_rfl
theorem lfield_n : (Tryz.f10.name == "runtime.NumGoroutine") = false := by kernel_rfl
theorem lfield_b : Tryz.f10.body.isNone = false := by kernel_rfl
theorem lfield_hO : OracleOk E lfield_O := orac_ok (.cons nhealth_ok (.cons nports_ok (.cons nset_ok .nil))) .nil .nil .nil
theorem lfield_ok_of (h : ∀ (x0 : Node) (x1 : Int), okFd x0 x1 = true → lfield_t (Gr E Tryz.f10 [⟨.api_Node, fdV x0 x1⟩, ⟨.api_Errno, fdE x0 x1⟩]) x0 x1 = some [⟨.api_Node, fdV x0 x1⟩, ⟨.api_Errno, fdE x0 x1⟩]) : FnOk E lfield_id lfield_W := fn22_ok lfield_hO mix lfield_f lfield_n lfield_b (fun x0 x1 hk => (lfield_e _ x0 x1).trans (h x0 x1 hk))
theorem lfield_ok : FnOk E lfield_id lfield_W := lfield_ok_of fun n k hk => by
  simp only [okFd, Bool.and_eq_true, beq_iff_eq] at hk
  obtain ⟨rfl, hk⟩ := hk
  simp [lfield_t, hk, node_eta, fdV, fdE]
def rfV (n : Node) (_ : Int) : Node := rhV n
def rfB (n : Node) (_ : Int) : Bool := rhB n
noncomputable def rfield_W : FnW E := fn22 (E := E) .api_Node .int .api_Node .bool okFd rfV rfB
def rfield_id : FuncId := 11
noncomputable def rfield_O : Oracle E := orac [(42, q18health_W), (36, q18pairs_W), (37, q18set_W)] [] [] []
noncomputable def rfield_H : Hint E := Hint.mk [] [] [] [] []
noncomputable def rfield_t (_G : Nat → ASt E → Option (List (TV E))) (x0 : Node) (x1 : Int) : Option (List (TV E)) :=
  bif (decide (x1 < (5 : Int))) then none else (bif (x1 == (5 : Int)) then none else (bif (bif (x1 == (6 : Int)) then true else (x1 == (7 : Int))) then (bif (okRp ⟨x0.kind, x0.text, x0.keys, x0.kids⟩ (x1 == (6 : Int))) then some [⟨.api_Node, (⟨(rprV ⟨x0.kind, x0.text, x0.keys, x0.kids⟩ (x1 == (6 : Int))).kind, (rprV ⟨x0.kind, x0.text, x0.keys, x0.kids⟩ (x1 == (6 : Int))).text, (rprV ⟨x0.kind, x0.text, x0.keys, x0.kids⟩ (x1 == (6 : Int))).keys, (rprV ⟨x0.kind, x0.text, x0.keys, x0.kids⟩ (x1 == (6 : Int))).kids⟩ : Node)⟩, ⟨.bool, (rprB ⟨x0.kind, x0.text, x0.keys, x0.kids⟩ (x1 == (6 : Int)))⟩] else none) else (bif (x1 == (8 : Int)) then (bif (okRs ⟨x0.kind, x0.text, x0.keys, x0.kids⟩) then some [⟨.api_Node, (⟨(rsetV ⟨x0.kind, x0.text, x0.keys, x0.kids⟩).kind, (rsetV ⟨x0.kind, x0.text, x0.keys, x0.kids⟩).text, (rsetV ⟨x0.kind, x0.text, x0.keys, x0.kids⟩).keys, (rsetV ⟨x0.kind, x0.text, x0.keys, x0.kids⟩).kids⟩ : Node)⟩, ⟨.bool, (rsetB ⟨x0.kind, x0.text, x0.keys, x0.kids⟩)⟩] else none) else (bif (x1 == (9 : Int)) then none else (bif (x1 == (10 : Int)) then none else (bif (x1 == (11 : Int)) then none else (bif (x1 == (12 : Int)) then none else (bif (okH ⟨x0.kind, x0.text, x0.keys, x0.kids⟩) then some [⟨.api_Node, (⟨(rhV ⟨x0.kind, x0.text, x0.keys, x0.kids⟩).kind, (rhV ⟨x0.kind, x0.text, x0.keys, x0.kids⟩).text, (rhV ⟨x0.kind, x0.text, x0.keys, x0.kids⟩).keys, (rhV ⟨x0.kind, x0.text, x0.keys, x0.kids⟩).kids⟩ : Node)⟩, ⟨.bool, (rhB ⟨x0.kind, x0.text, x0.keys, x0.kids⟩)⟩] else none))))))))
theorem rfield_e (G : Nat → ASt E → Option (List (TV E))) (x0 : Node) (x1 : Int) : runE rfield_O rfield_H G Tryz.f11 [⟨.api_Node, x0⟩, ⟨.int, x1⟩] = rfield_t G x0 x1 := by kernel_rfl
theorem rfield_f : Tryz.prog.funcs[11]? = some Tryz.f11 := by kernel_rfl
theorem rfield_n : (Tryz.f11.name == "runtime.NumGoroutine") = false := by kernel_rfl
theorem rfield_b : Tryz.f11.body.isNone = false := by kernel_rfl
theorem rfield_hO : OracleOk E rfield_O := orac_ok (.cons q18health_ok (.cons q18pairs_ok (.cons q18set_ok .nil))) .nil .nil .nil
theorem rfield_ok_of (h : ∀ (x0 : Node) (x1 : Int), okFd x0 x1 = true → rfield_t (Gr E Tryz.f11 [⟨.api_Node, rfV x0 x1⟩, ⟨.bool, rfB x0 x1⟩]) x0 x1 = some [⟨.api_Node, rfV x0 x1⟩, ⟨.bool, rfB x0 x1⟩]) : FnOk E rfield_id rfield_W := fn22_ok rfield_hO mix rfield_f rfield_n rfield_b (fun x0 x1 hk => (rfield_e _ x0 x1).trans (h x0 x1 hk))
theorem rfield_ok : FnOk E rfield_id rfield_W := rfield_ok_of fun n k hk => by
  simp only [okFd, Bool.and_eq_true, beq_iff_eq] at hk
  obtain ⟨rfl, hk⟩ := hk
  simp [rfield_t, hk, node_eta, rfV, rfB]
structure Ask (n : Node) (k : Int) : Prop where
  f : okFd n k = true
  v : fdV n k = rfV n k
  e : fdE n k = (bif rfB n k then 0 else 10)
  s : okS 12 (rfV n k) (rfV n k) = true
  again : rfB n k = true → okFd (rfV n k) k = true ∧ fdV (rfV n k) k = rfV n k ∧ fdE (rfV n k) k = 0
theorem ask_of_self {n : Node} (h : okH n = true) (gh : Gh0 n) (hw : wg 10000 12 (rhV n) = true) (ha : rhB n = true → okH (rhV n) = true ∧ Gh0 (rhV n) ∧ rhV (rhV n) = rhV n ∧ rhB (rhV n) = true) : Ask n 13 := by
  obtain ⟨a1, a2⟩ := health_eq gh
  refine ⟨by unfold okFd; rw [h]; rfl, a1, a2, okS_wg hw, fun hb => ?_⟩
  obtain ⟨o, g, s1, s2⟩ := ha hb
  obtain ⟨b1, b2⟩ := health_eq g
  refine ⟨by show okFd (rhV n) 13 = true; unfold okFd; rw [o]; rfl, b1.trans s1, ?_⟩
  show hE (rhV n) = 0
  rw [b2, s2]; rfl
theorem ask_health {n : Node} (g : Sm n) : Ask n 13 := by
  cases hno : rNo n with
  | true =>
    have e : rhV n = zn ∧ rhB n = false := by unfold rhV rhB; rw [hno]; exact ⟨rfl, rfl⟩
    exact ask_of_self g.oh g.gh (by rw [e.1]; exact zn_wg12) (fun hb => by rw [e.2] at hb; cases hb)
  | false =>
    cases hoff : rOff n == tru with
    | true =>
      have e : rhV n = disN := by unfold rhV; rw [hno, hoff]; rfl
      have o : okH disN = true := by decide
      exact ask_of_self g.oh g.gh (by rw [e]; decide) (fun _ => by rw [e]; exact ⟨o, fun _ => by decide, disN_self.1, disN_self.2⟩)
    | false =>
      have e : rhV n = doneV (rO n) true ∧ rhB n = doneB (rO n) true := by unfold rhV rhB; rw [hno, hoff]; exact ⟨rfl, rfl⟩
      cases hb : doneB (rO n) true with
      | false =>
        have : doneV (rO n) true = zn := by unfold doneV; rw [hb]; rfl
        exact ask_of_self g.oh g.gh (by rw [e.1, this]; exact zn_wg12) (fun h => by rw [e.2, hb] at h; cases h)
      | true =>
        have h := form_fh hb
        exact ask_of_self g.oh g.gh (by rw [e.1]; exact h.sf.wg_ isT1_wk) (fun _ => by rw [e.1]; exact ⟨h.oh, h.gh, health_self h hno⟩)
def okAs (n : Node) (k : Int) : Bool := (k == 13) && smallV n 100
theorem ask_of {n : Node} {k : Int} (hk : okAs n k = true) : Ask n k := by
  simp only [okAs, Bool.and_eq_true, beq_iff_eq] at hk
  obtain ⟨rfl, hk⟩ := hk
  exact ask_health (sm_of (by decide) hk)
noncomputable def lasked_W : FnW E := fn2 (E := E) .api_Node .int .bool okAs (fun _ _ => true)
def lasked_id : FuncId := 6
noncomputable def lasked_O : Oracle E := orac [(10, lfield_W), (12, rnsame_W 12), (11, rfield_W)] [] [] []
noncomputable def lasked_H : Hint E := Hint.mk [] [] [] [] []
noncomputable def lasked_t (_G : Nat → ASt E → Option (List (TV E))) (x0 : Node) (x1 : Int) : Option (List (TV E)) :=
  bif (okFd ⟨x0.kind, x0.text, x0.keys, x0.kids⟩ x1) then (bif (okFd ⟨x0.kind, x0.text, x0.keys, x0.kids⟩ x1) then (bif ((okS 12) (⟨(fdV ⟨x0.kind, x0.text, x0.keys, x0.kids⟩ x1).kind, (fdV ⟨x0.kind, x0.text, x0.keys, x0.kids⟩ x1).text, (fdV ⟨x0.kind, x0.text, x0.keys, x0.kids⟩ x1).keys, (fdV ⟨x0.kind, x0.text, x0.keys, x0.kids⟩ x1).kids⟩ : Node) (⟨(rfV ⟨x0.kind, x0.text, x0.keys, x0.kids⟩ x1).kind, (rfV ⟨x0.kind, x0.text, x0.keys, x0.kids⟩ x1).text, (rfV ⟨x0.kind, x0.text, x0.keys, x0.kids⟩ x1).keys, (rfV ⟨x0.kind, x0.text, x0.keys, x0.kids⟩ x1).kids⟩ : Node)) then (bif (bif (bif (!((same 12) (⟨(fdV ⟨x0.kind, x0.text, x0.keys, x0.kids⟩ x1).kind, (fdV ⟨x0.kind, x0.text, x0.keys, x0.kids⟩ x1).text, (fdV ⟨x0.kind, x0.text, x0.keys, x0.kids⟩ x1).keys, (fdV ⟨x0.kind, x0.text, x0.keys, x0.kids⟩ x1).kids⟩ : Node) (⟨(rfV ⟨x0.kind, x0.text, x0.keys, x0.kids⟩ x1).kind, (rfV ⟨x0.kind, x0.text, x0.keys, x0.kids⟩ x1).text, (rfV ⟨x0.kind, x0.text, x0.keys, x0.kids⟩ x1).keys, (rfV ⟨x0.kind, x0.text, x0.keys, x0.kids⟩ x1).kids⟩ : Node))) then true else (!(((fdE ⟨x0.kind, x0.text, x0.keys, x0.kids⟩ x1) == (0 : Int)) == (rfB ⟨x0.kind, x0.text, x0.keys, x0.kids⟩ x1)))) then true else (bif (!(rfB ⟨x0.kind, x0.text, x0.keys, x0.kids⟩ x1)) then ((fdE ⟨x0.kind, x0.text, x0.keys, x0.kids⟩ x1) != (10 : Int)) else false)) then some [⟨.bool, false⟩] else (bif (!(rfB ⟨x0.kind, x0.text, x0.keys, x0.kids⟩ x1)) then some [⟨.bool, true⟩] else (bif (okFd ⟨(fdV ⟨x0.kind, x0.text, x0.keys, x0.kids⟩ x1).kind, (fdV ⟨x0.kind, x0.text, x0.keys, x0.kids⟩ x1).text, (fdV ⟨x0.kind, x0.text, x0.keys, x0.kids⟩ x1).keys, (fdV ⟨x0.kind, x0.text, x0.keys, x0.kids⟩ x1).kids⟩ x1) then (bif (((okS 12) (⟨(fdV ⟨x0.kind, x0.text, x0.keys, x0.kids⟩ x1).kind, (fdV ⟨x0.kind, x0.text, x0.keys, x0.kids⟩ x1).text, (fdV ⟨x0.kind, x0.text, x0.keys, x0.kids⟩ x1).keys, (fdV ⟨x0.kind, x0.text, x0.keys, x0.kids⟩ x1).kids⟩ : Node) (⟨(fdV ⟨(fdV ⟨x0.kind, x0.text, x0.keys, x0.kids⟩ x1).kind, (fdV ⟨x0.kind, x0.text, x0.keys, x0.kids⟩ x1).text, (fdV ⟨x0.kind, x0.text, x0.keys, x0.kids⟩ x1).keys, (fdV ⟨x0.kind, x0.text, x0.keys, x0.kids⟩ x1).kids⟩ x1).kind, (fdV ⟨(fdV ⟨x0.kind, x0.text, x0.keys, x0.kids⟩ x1).kind, (fdV ⟨x0.kind, x0.text, x0.keys, x0.kids⟩ x1).text, (fdV ⟨x0.kind, x0.text, x0.keys, x0.kids⟩ x1).keys, (fdV ⟨x0.kind, x0.text, x0.keys, x0.kids⟩ x1).kids⟩ x1).text, (fdV ⟨(fdV ⟨x0.kind, x0.text, x0.keys, x0.kids⟩ x1).kind, (fdV ⟨x0.kind, x0.text, x0.keys, x0.kids⟩ x1).text, (fdV ⟨x0.kind, x0.text, x0.keys, x0.kids⟩ x1).keys, (fdV ⟨x0.kind, x0.text, x0.keys, x0.kids⟩ x1).kids⟩ x1).keys, (fdV ⟨(fdV ⟨x0.kind, x0.text, x0.keys, x0.kids⟩ x1).kind, (fdV ⟨x0.kind, x0.text, x0.keys, x0.kids⟩ x1).text, (fdV ⟨x0.kind, x0.text, x0.keys, x0.kids⟩ x1).keys, (fdV ⟨x0.kind, x0.text, x0.keys, x0.kids⟩ x1).kids⟩ x1).kids⟩ : Node)) || !((fdE ⟨(fdV ⟨x0.kind, x0.text, x0.keys, x0.kids⟩ x1).kind, (fdV ⟨x0.kind, x0.text, x0.keys, x0.kids⟩ x1).text, (fdV ⟨x0.kind, x0.text, x0.keys, x0.kids⟩ x1).keys, (fdV ⟨x0.kind, x0.text, x0.keys, x0.kids⟩ x1).kids⟩ x1) == (0 : Int))) then some [⟨.bool, (bif ((fdE ⟨(fdV ⟨x0.kind, x0.text, x0.keys, x0.kids⟩ x1).kind, (fdV ⟨x0.kind, x0.text, x0.keys, x0.kids⟩ x1).text, (fdV ⟨x0.kind, x0.text, x0.keys, x0.kids⟩ x1).keys, (fdV ⟨x0.kind, x0.text, x0.keys, x0.kids⟩ x1).kids⟩ x1) == (0 : Int)) then ((same 12) (⟨(fdV ⟨x0.kind, x0.text, x0.keys, x0.kids⟩ x1).kind, (fdV ⟨x0.kind, x0.text, x0.keys, x0.kids⟩ x1).text, (fdV ⟨x0.kind, x0.text, x0.keys, x0.kids⟩ x1).keys, (fdV ⟨x0.kind, x0.text, x0.keys, x0.kids⟩ x1).kids⟩ : Node) (⟨(fdV ⟨(fdV ⟨x0.kind, x0.text, x0.keys, x0.kids⟩ x1).kind, (fdV ⟨x0.kind, x0.text, x0.keys, x0.kids⟩ x1).text, (fdV ⟨x0.kind, x0.text, x0.keys, x0.kids⟩ x1).keys, (fdV ⟨x0.kind, x0.text, x0.keys, x0.kids⟩ x1).kids⟩ x1).kind, (fdV ⟨(fdV ⟨x0.kind, x0.text, x0.keys, x0.kids⟩ x1).kind, (fdV ⟨x0.kind, x0.text, x0.keys, x0.kids⟩ x1).text, (fdV ⟨x0.kind, x0.text, x0.keys, x0.kids⟩ x1).keys, (fdV ⟨x0.kind, x0.text, x0.keys, x0.kids⟩ x1).kids⟩ x1).text, (fdV ⟨(fdV ⟨x0.kind, x0.text, x0.keys, x0.kids⟩ x1).kind, (fdV ⟨x0.kind, x0.text, x0.keys, x0.kids⟩ x1).text, (fdV ⟨x0.kind, x0.text, x0.keys, x0.kids⟩ x1).keys, (fdV ⟨x0.kind, x0.text, x0.keys, x0.kids⟩ x1).kids⟩ x1).keys, (fdV ⟨(fdV ⟨x0.kind, x0.text, x0.keys, x0.kids⟩ x1).kind, (fdV ⟨x0.kind, x0.text, x0.keys, x0.kids⟩ x1).text, (fdV ⟨x0.kind, x0.text, x0.keys, x0.kids⟩ x1).keys, (fdV ⟨x0.kind, x0.text, x0.keys, x0.kids⟩ x1).kids⟩ x1).kids⟩ : Node)) else false)⟩] else none) else none))) else none) else none) else none
theorem lasked_e (G : Nat → ASt E → Option (List (TV E))) (x0 : Node) (x1 : Int) : runE lasked_O lasked_H G Tryz.f6 [⟨.api_Node, x0⟩, ⟨.int, x1⟩] = lasked_t G x0 x1 := by kernel_rfl
theorem lasked_f : Tryz.prog.funcs[6]? = some Tryz.f6 := by kernel_rfl
theorem lasked_n : (Tryz.f6.name == "runtime.NumGoroutine") = false := by kernel_rfl
theorem lasked_b : Tryz.f6.body.isNone = false := by kernel_rfl
theorem lasked_hO : OracleOk E lasked_O := orac_ok (.cons lfield_ok (.cons (rnsame_ok 12) (.cons rfield_ok .nil))) .nil .nil .nil
theorem lasked_ok_of (h : ∀ (x0 : Node) (x1 : Int), okAs x0 x1 = true → lasked_t (Gr E Tryz.f6 [⟨.bool, (fun _ _ => true) x0 x1⟩]) x0 x1 = some [⟨.bool, (fun _ _ => true) x0 x1⟩]) : FnOk E lasked_id lasked_W := fn2_ok lasked_hO mix lasked_f lasked_n lasked_b (fun x0 x1 hk => (lasked_e _ x0 x1).trans (h x0 x1 hk))
theorem lasked_ok : FnOk E lasked_id lasked_W := lasked_ok_of fun n k hk => by
  have q := ask_of hk
  have q1 := q.s
  have q2 : same 12 (rfV n k) (rfV n k) = true := same_refl 12 _ (by have := q.s; simp only [okS, Bool.and_eq_true] at this; exact this.1)
  simp only [lasked_t, node_eta, q.f, q.v, q.e, q1, q2, cond_true, Bool.not_true]
  cases hb : rfB n k with
  | false => rfl
  | true =>
    obtain ⟨p1, p2, p3⟩ := q.again hb
    simp only [cond_true, cond_false, Bool.not_true, node_eta, p1, p2, p3, q1, q2, Bool.true_or]
    rfl
noncomputable def law_W : FnW E := fn1 (E := E) .api_Node .bool (fun _ => true) (fun _ => true)
def law_id : FuncId := 3
noncomputable def law_O : Oracle E := orac [(6, lasked_W), (5, awake_W), (4, small_W)] [] [] []
noncomputable def law_H : Hint E := Hint.mk [] [] [] [] []
noncomputable def law_t (_G : Nat → ASt E → Option (List (TV E))) (x0 : Node) : Option (List (TV E)) :=
  bif (okSm ⟨x0.kind, x0.text, x0.keys, x0.kids⟩ 100) then (bif (!(smallV ⟨x0.kind, x0.text, x0.keys, x0.kids⟩ 100)) then some [⟨.bool, true⟩] else (bif (okAs ⟨x0.kind, x0.text, x0.keys, x0.kids⟩ 13) then some [⟨.bool, (bif ((fun _ _ => true) (⟨x0.kind, x0.text, x0.keys, x0.kids⟩ : Node) (13 : Int)) then true else false)⟩] else none)) else none
theorem law_e (G : Nat → ASt E → Option (List (TV E))) (x0 : Node) : runE law_O law_H G Tryz.f3 [⟨.api_Node, x0⟩] = law_t G x0 := by kernel_rfl
theorem law_f : Tryz.prog.funcs[3]? = some Tryz.f3 := by kernel_rfl
theorem law_n : (Tryz.f3.name == "runtime.NumGoroutine") = false := by kernel_rfl
theorem law_b : Tryz.f3.body.isNone = false := by kernel_rfl
theorem law_hO : OracleOk E law_O := orac_ok (.cons lasked_ok (.cons awake_ok (.cons small_ok .nil))) .nil .nil .nil
theorem law_ok_of (h : ∀ (x0 : Node), law_t (Gr E Tryz.f3 [⟨.bool, (fun _ => true) x0⟩]) x0 = some [⟨.bool, (fun _ => true) x0⟩]) : FnOk E law_id law_W := fn1_ok law_hO mix law_f law_n law_b (fun x0 _ => (law_e _ x0).trans (h x0))
theorem law_ok : FnOk E law_id law_W := law_ok_of fun n => by
  have e0 : okSm n 100 = true := rfl
  simp only [law_t, node_eta, e0, cond_true]
  cases hs : smallV n 100 with
  | false => rfl
  | true =>
    have q : okAs n 13 = true := by simp only [okAs, hs]; rfl
    simp only [q, cond_true, cond_false, Bool.not_true, Bool.true_or]
end Go.Proofs.YtgniedpgdjmfpaaGreatDoor.Rf
namespace Go.Proofs.YtgniedpgdjmfpaaGreatDoor.Mir
open Go Go.RowKit Go.Deep
def below (w : World) : Nat → Nat → Prop := fun k _ => k < w.heap.size
section
variable {P : Program} {E : Env P}
def Opens (E : Env P) (T : TypeId) (R : List (DVal E.Den) → Prop) : Prop :=
  ∀ {H : Type} (enc : TypeId × Value → H) (w : World) (base : Nat) (spare : Nat → Bool) (held : Bool) (fuel : Nat) (cs : List Value) (x : DataW H × List MemPlace), DataW.trod enc P w base spare held fuel T cs = some x →
    ∃ ds, R ds ∧ cs.length = ds.length ∧ ∀ (j : Nat) v d, cs[j]? = some v → ds[j]? = some d → DRep E w (below w) v d
def OpensT (E : Env P) (t : E.Ty) : Prop := Opens E (E.tid t) fun ds => ∃ x, ds = E.cells t x
theorem one_cell {w : World} {v : Value} {d : DVal E.Den} (h : DRep E w (below w) v d) : ∀ (j : Nat) u e, [v][j]? = some u → [d][j]? = some e → DRep E w (below w) u e := by
  intro j u e hu he
  cases j with
  | zero => simp at hu he; subst hu; subst he; exact h
  | succ j => simp at hu
theorem opens_int {T : TypeId} {k : IntKind} (hT : P.underlying T = some (.int k)) : Opens E T fun ds => ∃ n, ds = [.int k n] := by
  intro H enc w base spare held fuel cs x h
  obtain ⟨n, rfl, _, _⟩ := DataW.trod_int hT h
  exact ⟨[.int k n], ⟨n, rfl⟩, rfl, one_cell (.int k n)⟩
theorem opens_str {T : TypeId} (hT : P.underlying T = some .string) : Opens E T fun ds => ∃ s : List UInt8, ds = [.str s] ∧ s.length ≤ maxLen := by
  intro H enc w base spare held fuel cs x h
  obtain ⟨s, rfl, _, hs⟩ := DataW.trod_string hT h
  refine ⟨[.str s.data.toList], ⟨_, rfl, by rw [Array.length_toList]; exact hs⟩, rfl, one_cell ?_⟩
  have := DRep.str (E := E) (w := w) (ro := below w) s.data.toList
  simpa using this
theorem cell_in {w : World} {a : Addr} {u : Value} (h : w.cell? a = some u) : a.block < w.heap.size := by
  rcases Nat.lt_or_ge a.block w.heap.size with hl | hl
  · exact hl
  · unfold World.cell? at h
    rw [Array.getElem?_eq_none hl] at h
    cases h
theorem opens_slice {T : TypeId} {t : E.Ty} (hT : P.underlying T = some (.slice (E.tid t))) (ht : OpensT E t) (hC : P.cellsOf (E.tid t) = E.size t) : Opens E T fun ds => ∃ l, ds = [.slice t l] := by
  intro H enc w base spare held fuel cs x h
  rcases open_slice hT h with ⟨rfl, _⟩ | ⟨a, len, cap, m, n, D, Pl, rfl, hb, hl, hm, hmm, hx, hi⟩
  · exact ⟨[.slice t []], ⟨[], rfl⟩, rfl, one_cell (.nil t none 0)⟩
  · have hle : len ≤ m := by rw [hmm]; split <;> omega
    have hpos := E.size_pos t
    have key : ∀ i, i < len → ∃ x : E.Den t, ∀ (j : Nat) c, (E.cells t x)[j]? = some c → ∃ u, w.cell? (a.add (i * E.size t + j)) = some u ∧ DRep E w (below w) u c := by
      intro i hil
      obtain ⟨cs', hc, htr⟩ := hi i (by omega)
      rw [hC] at hc
      obtain ⟨ds, ⟨y, rfl⟩, hlen, hd⟩ := ht enc w base spare held n cs' _ htr
      obtain ⟨_, hcl, hat⟩ := World.cells?_some hc
      refine ⟨y, fun j c hj => ?_⟩
      have hjl : j < E.size t := by rw [← E.cells_len t y]; exact (List.getElem?_eq_some_iff.1 hj).1
      have hcj := hat j hjl
      have hv : cs'[j]? = some (cs'[j]'(by omega)) := List.getElem?_eq_getElem (by omega)
      refine ⟨_, ?_, hd j _ c hv hj⟩
      rw [← Go.Deep.add_add, hcj, hv]
    let pick : Nat → E.Den t := fun i => if hil : i < len then Classical.choose (key i hil) else E.dflt t
    have hpick : ∀ i, i < len → ∀ (j : Nat) c, (E.cells t (pick i))[j]? = some c → ∃ u, w.cell? (a.add (i * E.size t + j)) = some u ∧ DRep E w (below w) u c := by
      intro i hil
      have := Classical.choose_spec (key i hil)
      simpa only [pick, dif_pos hil] using this
    refine ⟨[.slice t ((List.range len).map pick)], ⟨_, rfl⟩, rfl, one_cell ?_⟩
    by_cases h0 : len = 0
    · subst h0
      exact .nil t _ _
    · obtain ⟨g, off, spot⟩ := a
      have hsp : spot = none := by
        have hc0 : 0 < (E.cells t (pick 0)).length := by rw [E.cells_len]; exact hpos
        obtain ⟨u, hu, _⟩ := hpick 0 (by omega) 0 _ (List.getElem?_eq_getElem hc0)
        have := World.cell?_spot hu
        unfold Addr.add at this
        split at this
        · simpa using this
        · rename_i hne; exact absurd (by simp) hne
      subst hsp
      have hlen : ((List.range len).map pick).length = len := by simp
      have at_ : ∀ i x j c, ((List.range len).map pick)[i]? = some x → (E.cells t x)[j]? = some c → ∃ u, w.cell? ⟨g, off + i * E.size t + j, none⟩ = some u ∧ DRep E w (below w) u c := by
        intro i x j c hix hj
        have hil : i < len := by have := (List.getElem?_eq_some_iff.1 hix).1; simpa using this
        have hx' : x = pick i := by simp [hil] at hix; exact hix.symm
        subst hx'
        obtain ⟨u, hu, hd⟩ := hpick i hil j c hj
        rw [show (⟨g, off, none⟩ : Addr).add (i * E.size t + j) = ⟨g, off + (i * E.size t + j), none⟩ from by unfold Addr.add; split <;> simp_all] at hu
        rw [← Nat.add_assoc] at hu
        exact ⟨u, hu, hd⟩
      have := DRep.slice (E := E) (w := w) (ro := below w) t ((List.range len).map pick) g off cap (fun i j => (w.cell? ⟨g, off + i * E.size t + j, none⟩).getD undef) (by rw [hlen]; exact hl)
        (fun i x j c hix hj => by
          obtain ⟨u, hu, _⟩ := at_ i x j c hix hj
          exact ⟨cell_in hu, by rw [hu]; rfl⟩)
        (fun i x j c hix hj => by
          obtain ⟨u, hu, hd⟩ := at_ i x j c hix hj
          simp only [hu, Option.getD_some]
          exact hd)
      rw [hlen] at this
      exact this
def RAll : List (List (DVal E.Den) → Prop) → List (DVal E.Den) → Prop
  | [], ds => ds = []
  | R :: Rs, ds => ∃ a b, R a ∧ ds = a ++ b ∧ RAll Rs b
theorem Opens.mono {T : TypeId} {R R' : List (DVal E.Den) → Prop} (h : Opens E T R) (hR : ∀ ds, R ds → R' ds) : Opens E T R' := by
  intro H enc w base spare held fuel cs x hx
  obtain ⟨ds, h1, h2⟩ := h enc w base spare held fuel cs x hx
  exact ⟨ds, hR ds h1, h2⟩
theorem arg_rep {H : Type} {enc : TypeId × Value → H} {w : World} {base : Nat} {spare : Nat → Bool} {held : Bool} {t : E.Ty} (ho : OpensT E t) {v : Value} {d : DataW H} {p : List MemPlace} (hsh : (E.agg t = true ∧ ∃ vs, v = .agg vs) ∨ (E.agg t = false ∧ v.cells = #[v]))
    (h : DataW.Trod enc P w base spare held (E.tid t) v d p) : ∃ x, TRep E w (below w) v t x := by
  obtain ⟨fuel, h⟩ := h
  obtain ⟨ds, ⟨x, rfl⟩, hl, hd⟩ := ho enc w base spare held fuel _ _ h
  refine ⟨x, ?_⟩
  rcases hsh with ⟨ha, vs, rfl⟩ | ⟨ha, hv⟩
  · exact .inl ⟨ha, vs, rfl, by simpa [Value.cells] using hl, fun j u e hu he => hd j u e (by simpa [Value.cells] using hu) he⟩
  · rw [hv] at hl hd
    obtain ⟨c, hc⟩ := single_of_len ((E.cells_len t x).trans (E.one t ha))
    refine .inr ⟨ha, c, hc, hd 0 v c rfl (by rw [hc]; rfl)⟩
end
end Go.Proofs.YtgniedpgdjmfpaaGreatDoor.Mir
namespace Go.Proofs.YtgniedpgdjmfpaaGreatDoor.Mir
open Go Go.RowKit Go.Deep
section
variable {P : Program} {E : Env P}
def OpensB (E : Env P) (b : Nat) (T : TypeId) (R : List (DVal E.Den) → Prop) : Prop :=
  ∀ {H : Type} (enc : TypeId × Value → H) (w : World) (base : Nat) (spare : Nat → Bool) (held : Bool) (fuel : Nat) (cs : List Value) (x : DataW H × List MemPlace), fuel < b → DataW.trod enc P w base spare held fuel T cs = some x →
    ∃ ds, R ds ∧ cs.length = ds.length ∧ ∀ (j : Nat) v d, cs[j]? = some v → ds[j]? = some d → DRep E w (below w) v d
theorem opensB_all {T : TypeId} {R : List (DVal E.Den) → Prop} (h : ∀ b, OpensB E b T R) : Opens E T R := fun enc w base spare held fuel cs x hx => h (fuel + 1) enc w base spare held fuel cs x (Nat.lt_succ_self _) hx
theorem opensB_of {b : Nat} {T : TypeId} {R : List (DVal E.Den) → Prop} (h : Opens E T R) : OpensB E b T R := fun enc w base spare held fuel cs x _ hx => h enc w base spare held fuel cs x hx
theorem opensB_zero {T : TypeId} {R : List (DVal E.Den) → Prop} : OpensB E 0 T R := fun _ _ _ _ _ _ _ _ hx _ => absurd hx (Nat.not_lt_zero _)
theorem OpensB.mono {b : Nat} {T : TypeId} {R R' : List (DVal E.Den) → Prop} (h : OpensB E b T R) (hR : ∀ ds, R ds → R' ds) : OpensB E b T R' := fun enc w base spare held fuel cs x hfb hx => by
  obtain ⟨ds, h1, h2⟩ := h enc w base spare held fuel cs x hfb hx
  exact ⟨ds, hR ds h1, h2⟩
theorem opensB_slice {b : Nat} {T : TypeId} {t : E.Ty} (hT : P.underlying T = some (.slice (E.tid t))) (ht : OpensB E b (E.tid t) fun ds => ∃ x, ds = E.cells t x) (hC : P.cellsOf (E.tid t) = E.size t) : OpensB E b T fun ds => ∃ l, ds = [.slice t l] := by
  intro H enc w base spare held fuel cs x hfb h
  rcases DataW.trod_slice hT h with ⟨rfl, _⟩ | ⟨a, len, cap, elems, rest, n, hfu, rfl, hx, hb, hl, hm, hlen0, hel, _, _⟩
  · exact ⟨[.slice t []], ⟨[], rfl⟩, rfl, one_cell (.nil t none 0)⟩
  · have hpos := E.size_pos t
    have key : ∀ i, i < len → ∃ x : E.Den t, ∀ (j : Nat) c, (E.cells t x)[j]? = some c → ∃ u, w.cell? (a.add (i * E.size t + j)) = some u ∧ DRep E w (below w) u c := by
      intro i hil
      have hei := hel i hil
      rw [List.getElem?_eq_getElem (show i < elems.length by omega)] at hei
      obtain ⟨cs', hc, htr⟩ := Option.bind_eq_some_iff.1 hei
      rw [hC] at hc
      obtain ⟨ds, ⟨y, rfl⟩, hlen, hd⟩ := ht enc w base spare held n cs' _ (by omega) htr
      obtain ⟨_, hcl, hat⟩ := World.cells?_some hc
      refine ⟨y, fun j c hj => ?_⟩
      have hjl : j < E.size t := by rw [← E.cells_len t y]; exact (List.getElem?_eq_some_iff.1 hj).1
      have hcj := hat j hjl
      have hv : cs'[j]? = some (cs'[j]'(by omega)) := List.getElem?_eq_getElem (by omega)
      refine ⟨_, ?_, hd j _ c hv hj⟩
      rw [← Go.Deep.add_add, hcj, hv]
    let pick : Nat → E.Den t := fun i => if hil : i < len then Classical.choose (key i hil) else E.dflt t
    have hpick : ∀ i, i < len → ∀ (j : Nat) c, (E.cells t (pick i))[j]? = some c → ∃ u, w.cell? (a.add (i * E.size t + j)) = some u ∧ DRep E w (below w) u c := by
      intro i hil
      have := Classical.choose_spec (key i hil)
      simpa only [pick, dif_pos hil] using this
    refine ⟨[.slice t ((List.range len).map pick)], ⟨_, rfl⟩, rfl, one_cell ?_⟩
    by_cases h0 : len = 0
    · subst h0
      exact .nil t _ _
    · obtain ⟨g, off, spot⟩ := a
      have hsp : spot = none := by
        have hc0 : 0 < (E.cells t (pick 0)).length := by rw [E.cells_len]; exact hpos
        obtain ⟨u, hu, _⟩ := hpick 0 (by omega) 0 _ (List.getElem?_eq_getElem hc0)
        have := World.cell?_spot hu
        unfold Addr.add at this
        split at this
        · simpa using this
        · rename_i hne; exact absurd (by simp) hne
      subst hsp
      have hlen : ((List.range len).map pick).length = len := by simp
      have at_ : ∀ i x j c, ((List.range len).map pick)[i]? = some x → (E.cells t x)[j]? = some c → ∃ u, w.cell? ⟨g, off + i * E.size t + j, none⟩ = some u ∧ DRep E w (below w) u c := by
        intro i x j c hix hj
        have hil : i < len := by have := (List.getElem?_eq_some_iff.1 hix).1; simpa using this
        have hx' : x = pick i := by simp [hil] at hix; exact hix.symm
        subst hx'
        obtain ⟨u, hu, hd⟩ := hpick i hil j c hj
        rw [show (⟨g, off, none⟩ : Addr).add (i * E.size t + j) = ⟨g, off + (i * E.size t + j), none⟩ from by unfold Addr.add; split <;> simp_all] at hu
        rw [← Nat.add_assoc] at hu
        exact ⟨u, hu, hd⟩
      have := DRep.slice (E := E) (w := w) (ro := below w) t ((List.range len).map pick) g off cap (fun i j => (w.cell? ⟨g, off + i * E.size t + j, none⟩).getD undef) (by rw [hlen]; exact hl)
        (fun i x j c hix hj => by
          obtain ⟨u, hu, _⟩ := at_ i x j c hix hj
          exact ⟨cell_in hu, by rw [hu]; rfl⟩)
        (fun i x j c hix hj => by
          obtain ⟨u, hu, hd⟩ := at_ i x j c hix hj
          simp only [hu, Option.getD_some]
          exact hd)
      rw [hlen] at this
      exact this
def FOpensB (E : Env P) (b n : Nat) : Nat → List Field → List (List (DVal E.Den) → Prop) → Prop
  | off, [], [] => off = n
  | off, f :: fs, R :: Rs => f.offset = off ∧ OpensB E b f.type R ∧ FOpensB E b n (off + P.cellsOf f.type) fs Rs
  | _, _, _ => False
theorem fopensB_sound {H : Type} {enc : TypeId × Value → H} {w : World} {base : Nat} {spare : Nat → Bool} {held : Bool} {b n fuel : Nat} {cs : List Value} (hfb : fuel < b) (hn : cs.length = n) : ∀ (fl : List Field) (Rs : List (List (DVal E.Den) → Prop)) (off : Nat), FOpensB E b n off fl Rs →
    (∀ f ∈ fl, ∃ y, DataW.trod enc P w base spare held fuel f.type ((cs.drop f.offset).take (P.cellsOf f.type)) = some y) →
    ∃ ds, RAll Rs ds ∧ (cs.drop off).length = ds.length ∧ ∀ (j : Nat) v d, (cs.drop off)[j]? = some v → ds[j]? = some d → DRep E w (below w) v d
  | [], [], off, h, _ => by
    have h : off = n := h
    subst h
    exact ⟨[], rfl, by simp [hn], fun j v d _ hd => by simp at hd⟩
  | f :: fl, R :: Rs, off, h, hf => by
    obtain ⟨ho, hR, hrest⟩ := h
    subst ho
    obtain ⟨y, hy⟩ := hf f List.mem_cons_self
    obtain ⟨d1, hR1, hl1, hd1⟩ := hR enc w base spare held fuel _ _ hfb hy
    obtain ⟨d2, hR2, hl2, hd2⟩ := fopensB_sound hfb hn fl Rs _ hrest fun g hg => hf g (List.mem_cons_of_mem _ hg)
    rw [← List.drop_drop] at hl2 hd2
    generalize hA : (cs.drop f.offset).take (P.cellsOf f.type) = A at *
    generalize hB : (cs.drop f.offset).drop (P.cellsOf f.type) = B at *
    have hsplit : cs.drop f.offset = A ++ B := by rw [← hA, ← hB, List.take_append_drop]
    refine ⟨d1 ++ d2, ⟨d1, d2, hR1, rfl, hR2⟩, by rw [hsplit, List.length_append, List.length_append, hl1, hl2], fun j v d hv hd => ?_⟩
    rw [hsplit] at hv
    rcases Nat.lt_or_ge j d1.length with hj | hj
    · rw [List.getElem?_append_left (by omega)] at hv
      rw [List.getElem?_append_left hj] at hd
      exact hd1 j v d hv hd
    · rw [List.getElem?_append_right (by omega), hl1] at hv
      rw [List.getElem?_append_right hj] at hd
      exact hd2 _ v d hv hd
  | [], _ :: _, _, h, _ => h.elim
  | _ :: _, [], _, h, _ => h.elim
theorem opensB_struct {b : Nat} {T : TypeId} {fs : Array Field} {Rs : List (List (DVal E.Den) → Prop)} (hT : P.underlying T = some (.struct fs)) (hF : FOpensB E b (P.cellsOf T) 0 fs.toList Rs) : OpensB E (b + 1) T (RAll Rs) := by
  intro H enc w base spare held fuel cs x hfb h
  obtain ⟨xs, n, rfl, rfl, hl, hlen, hf⟩ := DataW.trod_struct hT h
  obtain ⟨ds, h1, h2, h3⟩ := fopensB_sound (enc := enc) (w := w) (base := base) (spare := spare) (held := held) (fuel := n) (by omega) hl fs.toList Rs 0 hF (fun f hf' => by
    obtain ⟨i, hi⟩ := List.getElem?_of_mem hf'
    have hi' : fs[i]? = some f := by simpa using hi
    have hlt : i < xs.length := by rw [hlen]; exact (Array.getElem?_eq_some_iff.1 hi').1
    exact ⟨xs[i], by rw [hf i f hi', List.getElem?_eq_getElem hlt]⟩)
  exact ⟨ds, h1, by simpa using h2, by simpa using h3⟩
end
end Go.Proofs.YtgniedpgdjmfpaaGreatDoor.Mir
namespace Go.Proofs.YtgniedpgdjmfpaaGreatDoor.Rf
open Go Go.ChangeShapes Go.WideShapes Go.ChangeAt Go.RowKit Go.Proofs.YtgniedpgdjmfpaaGreatDoor.Mir
theorem opn_int : OpensT E .int := Opens.mono (E := E) (opens_int (T := 3) (k := .i64) (by kernel_rfl)) fun _ ⟨n, h⟩ => ⟨n, h⟩
theorem opn_str : OpensT E .str := Opens.mono (E := E) (opens_str (T := 9) (by kernel_rfl)) fun _ ⟨n, h, _⟩ => ⟨n, h⟩
theorem opn_l_str : OpensT E .l_str := Opens.mono (E := E) (opens_slice (E := E) (T := 22) (t := .str) (by kernel_rfl) opn_str (by kernel_rfl)) fun _ ⟨l, h⟩ => ⟨l, h⟩
set_option maxRecDepth 100000 in
theorem opn_api_Node : OpensT E .api_Node := opensB_all fun b => by
  induction b with
  | zero => exact opensB_zero
  | succ b ih => exact OpensB.mono (E := E) (opensB_struct (E := E) (Rs := [(fun ds => ∃ x, ds = E.cells .int x), (fun ds => ∃ x, ds = E.cells .str x), (fun ds => ∃ x, ds = E.cells .l_str x), (fun ds => ∃ x, ds = E.cells .l_api_Node x)]) Tryz.underlying25 ⟨by kernel_rfl, opensB_of opn_int, by kernel_rfl, opensB_of opn_str, by kernel_rfl, opensB_of opn_l_str, by kernel_rfl, OpensB.mono (opensB_slice (E := E) (T := 23) (t := .api_Node) (by kernel_rfl) ih (by kernel_rfl)) fun _ ⟨l, h⟩ => ⟨l, h⟩, (by kernel_rfl : 0 + Tryz.prog.cellsOf 3 + Tryz.prog.cellsOf 9 + Tryz.prog.cellsOf 22 + Tryz.prog.cellsOf 23 = Tryz.prog.cellsOf 25)⟩) fun _ ⟨_, _, ⟨x0, h0⟩, g0, _, _, ⟨x1, h1⟩, g1, _, _, ⟨x2, h2⟩, g2, _, _, ⟨x3, h3⟩, g3, g4⟩ => ⟨(⟨x0, x1, x2, x3⟩ : Node), by rw [g0, h0, g1, h1, g2, h2, g3, h3, g4]; rfl⟩
theorem own : ownKnob Tryz.prog.godebug = none := by kernel_rfl
theorem laidOut : laidOutB Tryz.prog = true := by kernel_rfl
theorem ret_bool {w : World} {ro : Nat → Nat → Prop} {v : Value} {b : Bool} (h : RetRep E w ro v [⟨.bool, b⟩]) : v = .bool b := by
  rcases h with ⟨ha, _⟩ | ⟨_, c, hc, hd⟩
  · cases ha
  · have e : c = .bool b := by
      have : ([.bool b] : List (DVal E.Den)) = [c] := hc
      simpa using this.symm
    subst e
    cases hd
    rfl
set_option maxRecDepth 100000 in
theorem lifted (os : Os) (started : os.Started) (H : Type) (enc : TypeId × Value → H) :
    ReturnsInHanded {} Tryz.checked os 3 .any (fun w args => (Rows.normHealthSpec.pre enc Tryz.prog Tryz.f3 Rows.normHealthRow.domain false w args ∧ laidMetH Tryz.prog Rows.normHealthRow.laid w) ∧ sizedMet enc Tryz.prog Tryz.f3 (OpenSpec.ofChange Rows.normHealthSpec) false w args) (Rows.normHealthSpec.post enc Tryz.prog Tryz.f3 false true false false) := by
  refine returnsInHanded_of_change_and (C := Tryz.checked) (X := fun w _ => laidMetH Tryz.prog Rows.normHealthRow.laid w) (fun _ _ _ hh h => h.of_heap hh) own started (by kernel_rfl) Tryz.func3
    (ChangeSpec.witness_shaped (enc := enc) (C := Tryz.checked) (os := os) (X := fun w _ => laidMetH Tryz.prog Rows.normHealthRow.laid w) false (World.laidAll Tryz.prog os Rows.normHealthRow.laid) #[.agg #[.int .i64 0, .string ⟨#[]⟩, .slice none 0 0, .slice none 0 0]] 8 (World.laidAll_os _ _ _)
      (World.shaped_of_ZipB (by kernel_rfl) (by kernel_rfl)) (by kernel_rfl) (by kernel_rfl) (by kernel_rfl)
      (by rw [MakeChecks.laidMetH_plain _ _ _ (by kernel_rfl)]; exact laidMet_laidAll _ (by kernel_rfl) (by kernel_rfl))) ?_
  intro W base args ds gs before hval0 hW _ _ hL _
  have hval : ∀ (j : Nat) t v, Tryz.f3.params[j]? = some t → args[j]? = some v → Value.okWide Tryz.prog W .any base t v := hval0
  have hW' := hW
  obtain ⟨p, q, hA0, hV, rfl, hfz, hnd⟩ := hW
  have hA : DataW.TrodAll enc Tryz.prog W 0 (fun _ => true) true Tryz.f3.params.toList args.toList ds p := hA0
  rw [Tryz.params3] at hA hval
  obtain ⟨v0, vs0, d0, ds0, p0, q0, hargs, rfl, rfl, h0, r0⟩ := trodAll_cons hA
  obtain ⟨rfl, rfl, rfl⟩ := trodAll_nil r0
  obtain rfl : args = #[v0] := by cases args; simp_all
  obtain ⟨rfl, rfl⟩ := trodVars_none hV
  obtain ⟨cs0, rfl, _⟩ := okWide_struct Tryz.underlying25 (hval 0 25 v0 rfl rfl)
  have lt0 : ∀ x ∈ p0, x.block < W.heap.size := by obtain ⟨m, hm⟩ := h0; exact DataW.trod_lt m _ _ _ hm
  obtain ⟨x0, t0⟩ := arg_rep (E := E) (t := .api_Node) opn_api_Node (.inl ⟨rfl, _, rfl⟩) h0
  clear hA0 hval0
  refine (law_ok.2 [⟨.api_Node, x0⟩] [⟨.bool, true⟩] rfl W (below W) [_] ⟨t0, trivial⟩ (fun _ _ h => h)).mono fun e W' ⟨v, he, bel, hret⟩ => ?_
  have hv := ret_bool hret
  subst hv
  subst he
  exact ⟨_, rfl, _, _, _, [], _, [], hW', trodAll_mk1 (shut_bool Tryz.underlying4 _),
    (trodAll_cons_mk (Below.trod laidOut (by kernel_rfl) (of_decide_eq_true (by kernel_rfl)) h0 bel lt0) trodAll_mk0), rfl, bel.frame _, fun h => by cases h⟩
theorem over : Rows.normHealthRow.holds Tryz.pinned (OpenSpec.ofChange Rows.normHealthSpec) :=
  OpenClaim.holds_of_wide 3 Tryz.f3 rfl rfl rfl rfl rfl rfl rfl ⟨rfl, rfl, rfl, rfl, rfl⟩ rfl rfl rfl rfl rfl (by kernel_rfl) Tryz.func3 (by kernel_rfl)
    (of_decide_eq_true (by kernel_rfl)) (by unfold Func.isWrapper; first | (rw [if_pos (by decide +kernel)]; kernel_rfl) | (rw [if_neg (by decide +kernel)]; exact ⟨rfl, rfl⟩))
    (fun os started H enc _ => lifted os started H enc)
theorem normHealth_proved : Rows.NormHealthCardSaid :=
  Claim7.holds_tied_plain_at .later [] [.data, .pinned] true (true, "7e4d9ecec225febe55e3b71e63342448a976e22b9bbed48713bbead27be3e8da") false over (fun _ h => by cases h) (by kernel_rfl) (fun _ h => by cases h) normHealth_row_tie rfl ⟨rfl, rfl⟩ (by kernel_rfl) rfl
    (fun f fn hf hfn => by
      obtain rfl : f = 3 := Option.some.inj ((show Tryz.prog.funcNamed "longshore/longshorelaw18.NormHealth" = some 3 by kernel_rfl).symm.trans hf) |>.symm
      obtain rfl : fn = Tryz.f3 := (Option.some.inj (Tryz.func3.symm.trans hfn)).symm
      exact ⟨by kernel_rfl, fun j t ht => by
        rw [Tryz.params3] at ht
        have hm : t ∈ [25] := by simpa using Array.mem_of_getElem? ht
        have hall : ([25].all fun u => !Tryz.prog.wantsStandIn u) = true := by kernel_rfl
        exact (show Tryz.prog.wantsStandIn t = false by simpa using List.all_eq_true.1 hall t hm)⟩)
    (by kernel_rfl)
#print axioms normHealth_proved
end Go.Proofs.YtgniedpgdjmfpaaGreatDoor.Rf
