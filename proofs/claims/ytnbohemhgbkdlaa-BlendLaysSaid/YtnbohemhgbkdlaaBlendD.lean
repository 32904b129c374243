/- The law of overlaid nodes: the reference's overlaid nodes. -/
import Derived.Test.YtnbohemhgbkdlaaBlendC
namespace Go.Proofs.Ytnbohemhgbkdlaa.Bl
open Go Go.RowKit Go.Sort Go.Proofs.Ytnbohemhgbkdlaa.Mir
/-! ### The reference's overlaid nodes (20) -/
noncomputable def rtwo_W (n : Nat) : FnW E := fn2 (E := E) .api_Node .api_Node .api_Node (okT n) (twoV n)
def rtwo_id : FuncId := 8
noncomputable def rtwo_O (n : Nat) : Oracle E := orac [(19, rboth_W), (20, rget_W), (8, rtwo_W n)] [] [] []
noncomputable def rtwo_H : Hint E := Hint.mk [(0, [2, 3, 4, 5, 6, 7])] [] [(0, [(6, some 2, true, .str), (6, some 3, true, .api_Node)])]
noncomputable def rtwo_C0 (v0 : List (List UInt8)) (v1 : Int) (v2 : Int) (v3 : List UInt8) (v4 : List (List UInt8)) (v5 : List Node) (v6 : Int) (v7 : List UInt8) (v8 : List (List UInt8)) (v9 : List Node) (v10 : Int) (v11 : List UInt8) (v12 : Int) (v13 : List UInt8) (v14 : List (List UInt8)) (v15 : List Node) : ASt E := ASt.mk 83 [(2, .ptr 0 0), (3, .ptr 1 0), (4, .ptr 2 0), (5, .d (.slice .str v0)), (6, .ptr 3 0), (7, .d (.int .i64 v1))] [(0, .box [.d (.int .i64 v2), .d (.str v3), .d (.slice .str v4), .d (.slice .api_Node v5)]), (1, .box [.d (.int .i64 v6), .d (.str v7), .d (.slice .str v8), .d (.slice .api_Node v9)]), (2, .box [.d (.int .i64 v10), .d (.str v11), .d (.raw (.slice none 0 0)), .d (.raw (.slice none 0 0))]), (3, .box [.d (.int .i64 v12), .d (.str v13), .grow .str v14 4, .grow .api_Node v15 5]), (4, .tail true), (5, .tail true)] 6
noncomputable def rtwo_t (_n : Nat) (G : Nat → ASt E → Option (List (TV E))) (x0 : Node) (x1 : Node) : Option (List (TV E)) :=
  bif (bif (x0.kind != (3 : Int)) then true else (x1.kind != (3 : Int))) then some [⟨.api_Node, (⟨x1.kind, x1.text, x1.keys, x1.kids⟩ : Node)⟩] else (bif (ln5 x0.keys x1.keys) then G 0 (rtwo_C0 (both x0.keys x1.keys) (0 : Int) x0.kind x0.text x0.keys x0.kids x1.kind x1.text x1.keys x1.kids (0 : Int) ([] : List UInt8) (3 : Int) ([] : List UInt8) ([] : List (List UInt8)) ([] : List Node)) else none)
theorem rtwo_e (n : Nat) (G : Nat → ASt E → Option (List (TV E))) (x0 : Node) (x1 : Node) : runE (rtwo_O n) rtwo_H G Try.f8 [⟨.api_Node, x0⟩, ⟨.api_Node, x1⟩] = rtwo_t n G x0 x1 := by kernel_rfl
noncomputable def rtwo_t0 (n : Nat) (G : Nat → ASt E → Option (List (TV E))) (v0 : List (List UInt8)) (v1 : Int) (v2 : Int) (v3 : List UInt8) (v4 : List (List UInt8)) (v5 : List Node) (v6 : Int) (v7 : List UInt8) (v8 : List (List UInt8)) (v9 : List Node) (v10 : Int) (v11 : List UInt8) (v12 : Int) (v13 : List UInt8) (v14 : List (List UInt8)) (v15 : List Node) : Option (List (TV E)) :=
  bif (decide (v1 < (v0.length : Int))) then (bif (decide ((0 : Int) ≤ v1) && decide (v1 < (v0.length : Int))) then (bif ((fun n _ => fit n) (⟨v2, v3, v4, v5⟩ : Node) (List.getD v0 (Int.toNat v1) (dflt .str))) then (bif (decide ((0 : Int) ≤ v1) && decide (v1 < (v0.length : Int))) then (bif ((fun n _ => fit n) (⟨v6, v7, v8, v9⟩ : Node) (List.getD v0 (Int.toNat v1) (dflt .str))) then (bif (!(getB (⟨v6, v7, v8, v9⟩ : Node) (List.getD v0 (Int.toNat v1) (dflt .str)))) then (bif (decide ((0 : Int) ≤ v1) && decide (v1 < (v0.length : Int))) then (bif (decide ((v14.length + ([(List.getD v0 (Int.toNat v1) (dflt .str))] : List (List UInt8)).length) * 16 ≤ maxBytes)) then (bif (decide ((v15.length + ([(⟨(getV (⟨v2, v3, v4, v5⟩ : Node) (List.getD v0 (Int.toNat v1) (dflt .str))).kind, (getV (⟨v2, v3, v4, v5⟩ : Node) (List.getD v0 (Int.toNat v1) (dflt .str))).text, (getV (⟨v2, v3, v4, v5⟩ : Node) (List.getD v0 (Int.toNat v1) (dflt .str))).keys, (getV (⟨v2, v3, v4, v5⟩ : Node) (List.getD v0 (Int.toNat v1) (dflt .str))).kids⟩ : Node)] : List Node).length) * 72 ≤ maxBytes)) then G 0 (rtwo_C0 v0 (w64 (v1 + (1 : Int))) v2 v3 v4 v5 v6 v7 v8 v9 v10 v11 v12 v13 (v14 ++ ([(List.getD v0 (Int.toNat v1) (dflt .str))] : List (List UInt8))) (v15 ++ ([(⟨(getV (⟨v2, v3, v4, v5⟩ : Node) (List.getD v0 (Int.toNat v1) (dflt .str))).kind, (getV (⟨v2, v3, v4, v5⟩ : Node) (List.getD v0 (Int.toNat v1) (dflt .str))).text, (getV (⟨v2, v3, v4, v5⟩ : Node) (List.getD v0 (Int.toNat v1) (dflt .str))).keys, (getV (⟨v2, v3, v4, v5⟩ : Node) (List.getD v0 (Int.toNat v1) (dflt .str))).kids⟩ : Node)] : List Node))) else none) else none) else none) else (bif ((decide ((0 : Int) ≤ v1) && decide (v1 < (v0.length : Int))) || !(getB (⟨v2, v3, v4, v5⟩ : Node) (List.getD v0 (Int.toNat v1) (dflt .str)))) then (bif (bif (getB (⟨v2, v3, v4, v5⟩ : Node) (List.getD v0 (Int.toNat v1) (dflt .str))) then (!((List.getD v0 (Int.toNat v1) (dflt .str)) == ([101, 120, 116, 101, 110, 100, 115] : List UInt8))) else false) then (bif ((okT n) (⟨(getV (⟨v2, v3, v4, v5⟩ : Node) (List.getD v0 (Int.toNat v1) (dflt .str))).kind, (getV (⟨v2, v3, v4, v5⟩ : Node) (List.getD v0 (Int.toNat v1) (dflt .str))).text, (getV (⟨v2, v3, v4, v5⟩ : Node) (List.getD v0 (Int.toNat v1) (dflt .str))).keys, (getV (⟨v2, v3, v4, v5⟩ : Node) (List.getD v0 (Int.toNat v1) (dflt .str))).kids⟩ : Node) (⟨(getV (⟨v6, v7, v8, v9⟩ : Node) (List.getD v0 (Int.toNat v1) (dflt .str))).kind, (getV (⟨v6, v7, v8, v9⟩ : Node) (List.getD v0 (Int.toNat v1) (dflt .str))).text, (getV (⟨v6, v7, v8, v9⟩ : Node) (List.getD v0 (Int.toNat v1) (dflt .str))).keys, (getV (⟨v6, v7, v8, v9⟩ : Node) (List.getD v0 (Int.toNat v1) (dflt .str))).kids⟩ : Node)) then (bif (decide ((0 : Int) ≤ v1) && decide (v1 < (v0.length : Int))) then (bif (decide ((v14.length + ([(List.getD v0 (Int.toNat v1) (dflt .str))] : List (List UInt8)).length) * 16 ≤ maxBytes)) then (bif (decide ((v15.length + ([(⟨((twoV n) (⟨(getV (⟨v2, v3, v4, v5⟩ : Node) (List.getD v0 (Int.toNat v1) (dflt .str))).kind, (getV (⟨v2, v3, v4, v5⟩ : Node) (List.getD v0 (Int.toNat v1) (dflt .str))).text, (getV (⟨v2, v3, v4, v5⟩ : Node) (List.getD v0 (Int.toNat v1) (dflt .str))).keys, (getV (⟨v2, v3, v4, v5⟩ : Node) (List.getD v0 (Int.toNat v1) (dflt .str))).kids⟩ : Node) (⟨(getV (⟨v6, v7, v8, v9⟩ : Node) (List.getD v0 (Int.toNat v1) (dflt .str))).kind, (getV (⟨v6, v7, v8, v9⟩ : Node) (List.getD v0 (Int.toNat v1) (dflt .str))).text, (getV (⟨v6, v7, v8, v9⟩ : Node) (List.getD v0 (Int.toNat v1) (dflt .str))).keys, (getV (⟨v6, v7, v8, v9⟩ : Node) (List.getD v0 (Int.toNat v1) (dflt .str))).kids⟩ : Node)).kind, ((twoV n) (⟨(getV (⟨v2, v3, v4, v5⟩ : Node) (List.getD v0 (Int.toNat v1) (dflt .str))).kind, (getV (⟨v2, v3, v4, v5⟩ : Node) (List.getD v0 (Int.toNat v1) (dflt .str))).text, (getV (⟨v2, v3, v4, v5⟩ : Node) (List.getD v0 (Int.toNat v1) (dflt .str))).keys, (getV (⟨v2, v3, v4, v5⟩ : Node) (List.getD v0 (Int.toNat v1) (dflt .str))).kids⟩ : Node) (⟨(getV (⟨v6, v7, v8, v9⟩ : Node) (List.getD v0 (Int.toNat v1) (dflt .str))).kind, (getV (⟨v6, v7, v8, v9⟩ : Node) (List.getD v0 (Int.toNat v1) (dflt .str))).text, (getV (⟨v6, v7, v8, v9⟩ : Node) (List.getD v0 (Int.toNat v1) (dflt .str))).keys, (getV (⟨v6, v7, v8, v9⟩ : Node) (List.getD v0 (Int.toNat v1) (dflt .str))).kids⟩ : Node)).text, ((twoV n) (⟨(getV (⟨v2, v3, v4, v5⟩ : Node) (List.getD v0 (Int.toNat v1) (dflt .str))).kind, (getV (⟨v2, v3, v4, v5⟩ : Node) (List.getD v0 (Int.toNat v1) (dflt .str))).text, (getV (⟨v2, v3, v4, v5⟩ : Node) (List.getD v0 (Int.toNat v1) (dflt .str))).keys, (getV (⟨v2, v3, v4, v5⟩ : Node) (List.getD v0 (Int.toNat v1) (dflt .str))).kids⟩ : Node) (⟨(getV (⟨v6, v7, v8, v9⟩ : Node) (List.getD v0 (Int.toNat v1) (dflt .str))).kind, (getV (⟨v6, v7, v8, v9⟩ : Node) (List.getD v0 (Int.toNat v1) (dflt .str))).text, (getV (⟨v6, v7, v8, v9⟩ : Node) (List.getD v0 (Int.toNat v1) (dflt .str))).keys, (getV (⟨v6, v7, v8, v9⟩ : Node) (List.getD v0 (Int.toNat v1) (dflt .str))).kids⟩ : Node)).keys, ((twoV n) (⟨(getV (⟨v2, v3, v4, v5⟩ : Node) (List.getD v0 (Int.toNat v1) (dflt .str))).kind, (getV (⟨v2, v3, v4, v5⟩ : Node) (List.getD v0 (Int.toNat v1) (dflt .str))).text, (getV (⟨v2, v3, v4, v5⟩ : Node) (List.getD v0 (Int.toNat v1) (dflt .str))).keys, (getV (⟨v2, v3, v4, v5⟩ : Node) (List.getD v0 (Int.toNat v1) (dflt .str))).kids⟩ : Node) (⟨(getV (⟨v6, v7, v8, v9⟩ : Node) (List.getD v0 (Int.toNat v1) (dflt .str))).kind, (getV (⟨v6, v7, v8, v9⟩ : Node) (List.getD v0 (Int.toNat v1) (dflt .str))).text, (getV (⟨v6, v7, v8, v9⟩ : Node) (List.getD v0 (Int.toNat v1) (dflt .str))).keys, (getV (⟨v6, v7, v8, v9⟩ : Node) (List.getD v0 (Int.toNat v1) (dflt .str))).kids⟩ : Node)).kids⟩ : Node)] : List Node).length) * 72 ≤ maxBytes)) then G 0 (rtwo_C0 v0 (w64 (v1 + (1 : Int))) v2 v3 v4 v5 v6 v7 v8 v9 v10 v11 v12 v13 (v14 ++ ([(List.getD v0 (Int.toNat v1) (dflt .str))] : List (List UInt8))) (v15 ++ ([(⟨((twoV n) (⟨(getV (⟨v2, v3, v4, v5⟩ : Node) (List.getD v0 (Int.toNat v1) (dflt .str))).kind, (getV (⟨v2, v3, v4, v5⟩ : Node) (List.getD v0 (Int.toNat v1) (dflt .str))).text, (getV (⟨v2, v3, v4, v5⟩ : Node) (List.getD v0 (Int.toNat v1) (dflt .str))).keys, (getV (⟨v2, v3, v4, v5⟩ : Node) (List.getD v0 (Int.toNat v1) (dflt .str))).kids⟩ : Node) (⟨(getV (⟨v6, v7, v8, v9⟩ : Node) (List.getD v0 (Int.toNat v1) (dflt .str))).kind, (getV (⟨v6, v7, v8, v9⟩ : Node) (List.getD v0 (Int.toNat v1) (dflt .str))).text, (getV (⟨v6, v7, v8, v9⟩ : Node) (List.getD v0 (Int.toNat v1) (dflt .str))).keys, (getV (⟨v6, v7, v8, v9⟩ : Node) (List.getD v0 (Int.toNat v1) (dflt .str))).kids⟩ : Node)).kind, ((twoV n) (⟨(getV (⟨v2, v3, v4, v5⟩ : Node) (List.getD v0 (Int.toNat v1) (dflt .str))).kind, (getV (⟨v2, v3, v4, v5⟩ : Node) (List.getD v0 (Int.toNat v1) (dflt .str))).text, (getV (⟨v2, v3, v4, v5⟩ : Node) (List.getD v0 (Int.toNat v1) (dflt .str))).keys, (getV (⟨v2, v3, v4, v5⟩ : Node) (List.getD v0 (Int.toNat v1) (dflt .str))).kids⟩ : Node) (⟨(getV (⟨v6, v7, v8, v9⟩ : Node) (List.getD v0 (Int.toNat v1) (dflt .str))).kind, (getV (⟨v6, v7, v8, v9⟩ : Node) (List.getD v0 (Int.toNat v1) (dflt .str))).text, (getV (⟨v6, v7, v8, v9⟩ : Node) (List.getD v0 (Int.toNat v1) (dflt .str))).keys, (getV (⟨v6, v7, v8, v9⟩ : Node) (List.getD v0 (Int.toNat v1) (dflt .str))).kids⟩ : Node)).text, ((twoV n) (⟨(getV (⟨v2, v3, v4, v5⟩ : Node) (List.getD v0 (Int.toNat v1) (dflt .str))).kind, (getV (⟨v2, v3, v4, v5⟩ : Node) (List.getD v0 (Int.toNat v1) (dflt .str))).text, (getV (⟨v2, v3, v4, v5⟩ : Node) (List.getD v0 (Int.toNat v1) (dflt .str))).keys, (getV (⟨v2, v3, v4, v5⟩ : Node) (List.getD v0 (Int.toNat v1) (dflt .str))).kids⟩ : Node) (⟨(getV (⟨v6, v7, v8, v9⟩ : Node) (List.getD v0 (Int.toNat v1) (dflt .str))).kind, (getV (⟨v6, v7, v8, v9⟩ : Node) (List.getD v0 (Int.toNat v1) (dflt .str))).text, (getV (⟨v6, v7, v8, v9⟩ : Node) (List.getD v0 (Int.toNat v1) (dflt .str))).keys, (getV (⟨v6, v7, v8, v9⟩ : Node) (List.getD v0 (Int.toNat v1) (dflt .str))).kids⟩ : Node)).keys, ((twoV n) (⟨(getV (⟨v2, v3, v4, v5⟩ : Node) (List.getD v0 (Int.toNat v1) (dflt .str))).kind, (getV (⟨v2, v3, v4, v5⟩ : Node) (List.getD v0 (Int.toNat v1) (dflt .str))).text, (getV (⟨v2, v3, v4, v5⟩ : Node) (List.getD v0 (Int.toNat v1) (dflt .str))).keys, (getV (⟨v2, v3, v4, v5⟩ : Node) (List.getD v0 (Int.toNat v1) (dflt .str))).kids⟩ : Node) (⟨(getV (⟨v6, v7, v8, v9⟩ : Node) (List.getD v0 (Int.toNat v1) (dflt .str))).kind, (getV (⟨v6, v7, v8, v9⟩ : Node) (List.getD v0 (Int.toNat v1) (dflt .str))).text, (getV (⟨v6, v7, v8, v9⟩ : Node) (List.getD v0 (Int.toNat v1) (dflt .str))).keys, (getV (⟨v6, v7, v8, v9⟩ : Node) (List.getD v0 (Int.toNat v1) (dflt .str))).kids⟩ : Node)).kids⟩ : Node)] : List Node))) else none) else none) else none) else none) else (bif (decide ((0 : Int) ≤ v1) && decide (v1 < (v0.length : Int))) then (bif (decide ((v14.length + ([(List.getD v0 (Int.toNat v1) (dflt .str))] : List (List UInt8)).length) * 16 ≤ maxBytes)) then (bif (decide ((v15.length + ([(⟨(getV (⟨v6, v7, v8, v9⟩ : Node) (List.getD v0 (Int.toNat v1) (dflt .str))).kind, (getV (⟨v6, v7, v8, v9⟩ : Node) (List.getD v0 (Int.toNat v1) (dflt .str))).text, (getV (⟨v6, v7, v8, v9⟩ : Node) (List.getD v0 (Int.toNat v1) (dflt .str))).keys, (getV (⟨v6, v7, v8, v9⟩ : Node) (List.getD v0 (Int.toNat v1) (dflt .str))).kids⟩ : Node)] : List Node).length) * 72 ≤ maxBytes)) then G 0 (rtwo_C0 v0 (w64 (v1 + (1 : Int))) v2 v3 v4 v5 v6 v7 v8 v9 v10 v11 v12 v13 (v14 ++ ([(List.getD v0 (Int.toNat v1) (dflt .str))] : List (List UInt8))) (v15 ++ ([(⟨(getV (⟨v6, v7, v8, v9⟩ : Node) (List.getD v0 (Int.toNat v1) (dflt .str))).kind, (getV (⟨v6, v7, v8, v9⟩ : Node) (List.getD v0 (Int.toNat v1) (dflt .str))).text, (getV (⟨v6, v7, v8, v9⟩ : Node) (List.getD v0 (Int.toNat v1) (dflt .str))).keys, (getV (⟨v6, v7, v8, v9⟩ : Node) (List.getD v0 (Int.toNat v1) (dflt .str))).kids⟩ : Node)] : List Node))) else none) else none) else none)) else none)) else none) else none) else none) else none) else some [⟨.api_Node, (⟨v12, v13, v14, v15⟩ : Node)⟩]
theorem rtwo_l0 (n : Nat) (G : Nat → ASt E → Option (List (TV E))) (v0 : List (List UInt8)) (v1 : Int) (v2 : Int) (v3 : List UInt8) (v4 : List (List UInt8)) (v5 : List Node) (v6 : Int) (v7 : List UInt8) (v8 : List (List UInt8)) (v9 : List Node) (v10 : Int) (v11 : List UInt8) (v12 : Int) (v13 : List UInt8) (v14 : List (List UInt8)) (v15 : List Node) : runL (rtwo_O n) rtwo_H G Try.f8 0 (rtwo_C0 v0 v1 v2 v3 v4 v5 v6 v7 v8 v9 v10 v11 v12 v13 v14 v15) = rtwo_t0 n G v0 v1 v2 v3 v4 v5 v6 v7 v8 v9 v10 v11 v12 v13 v14 v15 := by kernel_rfl
theorem rtwo_f : Try.prog.funcs[8]? = some Try.f8 := by kernel_rfl
theorem rtwo_n : (Try.f8.name == "runtime.NumGoroutine") = false := by kernel_rfl
theorem rtwo_b : Try.f8.body.isNone = false := by kernel_rfl
theorem rtwo_ex : ∃ fn, Try.prog.funcs[8]? = some fn ∧ (fn.name == "runtime.NumGoroutine") = false ∧ fn.body.isNone = false := ⟨Try.f8, rtwo_f, rtwo_n, rtwo_b⟩
theorem rtwo_hO (n : Nat) (ih : FnOk E rtwo_id (rtwo_W n)) : OracleOk E (rtwo_O n) := orac_ok (.cons rboth_ok (.cons rget_ok (.cons ih .nil))) .nil .nil .nil
theorem rtwo_s0 (n : Nat) (ih : FnOk E rtwo_id (rtwo_W n)) {res : List (TV E)} {v0 : List (List UInt8)} {v1 : Int} {v2 : Int} {v3 : List UInt8} {v4 : List (List UInt8)} {v5 : List Node} {v6 : Int} {v7 : List UInt8} {v8 : List (List UInt8)} {v9 : List Node} {v10 : Int} {v11 : List UInt8} {v12 : Int} {v13 : List UInt8} {v14 : List (List UInt8)} {v15 : List Node} (h : rtwo_t0 n (Gr E Try.f8 res) v0 v1 v2 v3 v4 v5 v6 v7 v8 v9 v10 v11 v12 v13 v14 v15 = some res) : Ev E Try.f8 res 0 (rtwo_C0 v0 v1 v2 v3 v4 v5 v6 v7 v8 v9 v10 v11 v12 v13 v14 v15) := Ev.step (rtwo_hO n ih) mix ((rtwo_l0 n _ v0 v1 v2 v3 v4 v5 v6 v7 v8 v9 v10 v11 v12 v13 v14 v15).trans h)
theorem rtwo_ok_of (n : Nat) (ih : FnOk E rtwo_id (rtwo_W n)) (h : ∀ (x0 : Node) (x1 : Node), (okT (n + 1)) x0 x1 = true → rtwo_t n (Gr E Try.f8 [⟨.api_Node, (twoV (n + 1)) x0 x1⟩]) x0 x1 = some [⟨.api_Node, (twoV (n + 1)) x0 x1⟩]) : FnOk E rtwo_id (rtwo_W (n + 1)) := fn2_ok (rtwo_hO n ih) mix rtwo_f rtwo_n rtwo_b (fun x0 x1 hk => (rtwo_e n _ x0 x1).trans (h x0 x1 hk))
theorem rtwo_loop (n : Nat) (ih : FnOk E rtwo_id (rtwo_W n)) (a b : Node) (ha : wf 200 (n + 1) a = true) (hb : wf 200 (n + 1) b = true) (ks : List (List UInt8)) (hks : ks.length ≤ 400) (u0 : Int) (u1 : List UInt8) :
    ∀ (m i : Nat) (ok : List (List UInt8)) (ov : List Node), ks.length - i = m → i ≤ ks.length → ok.length = i → ov.length = i →
      Ev E Try.f8 [⟨.api_Node, (⟨3, [], ok ++ ks.drop i, ov ++ (ks.drop i).map (pick (twoV n) a b)⟩ : Node)⟩] 0 (rtwo_C0 ks i a.kind a.text a.keys a.kids b.kind b.text b.keys b.kids u0 u1 3 [] ok ov) := by
  have fa := wf_fit ha (by decide)
  have fb := wf_fit hb (by decide)
  intro m
  induction m with
  | zero =>
    intro i ok ov h1 h2 h3 h4
    refine rtwo_s0 n ih ?_
    simp only [rtwo_t0, dge (show ks.length ≤ i by omega), cond_false, List.drop_eq_nil_of_le (show ks.length ≤ i by omega), List.append_nil, List.map_nil]
  | succ m ih2 =>
    intro i ok ov h1 h2 h3 h4
    have hi : i < ks.length := by omega
    have e1 : decide ((ok.length + [ks[i]].length) * 16 ≤ maxBytes) = true := dT (by rw [mb, List.length_singleton]; omega)
    have e2 : ∀ v : Node, decide ((ov.length + [v].length) * 72 ≤ maxBytes) = true := fun v => dT (by rw [mb, List.length_singleton]; omega)
    have e3 : w64 ((i : Int) + 1) = ((i + 1 : Nat) : Int) := by rw [w64_id (by omega) (by omega)]; omega
    refine rtwo_s0 n ih ?_
    simp only [rtwo_t0, dlt hi, d0, gd ks _ i hi, Bool.and_self, Bool.true_or, cond_true, node_eta, fa, fb, e1, e2, e3]
    rw [← List.getElem_cons_drop hi]
    have fin : ∀ v, v = pick (twoV n) a b ks[i] → Gr E Try.f8 [⟨.api_Node, (⟨3, [], ok ++ ks[i] :: ks.drop (i + 1), ov ++ (ks[i] :: ks.drop (i + 1)).map (pick (twoV n) a b)⟩ : Node)⟩] 0 (rtwo_C0 ks ((i + 1 : Nat) : Int) a.kind a.text a.keys a.kids b.kind b.text b.keys b.kids u0 u1 3 [] (ok ++ [ks[i]]) (ov ++ [v])) = some [⟨.api_Node, (⟨3, [], ok ++ ks[i] :: ks.drop (i + 1), ov ++ (ks[i] :: ks.drop (i + 1)).map (pick (twoV n) a b)⟩ : Node)⟩] := by
      rintro v rfl
      have := Gr_of (ih2 (i + 1) (ok ++ [ks[i]]) (ov ++ [pick (twoV n) a b ks[i]]) (by omega) (by omega) (by simp [h3]) (by simp [h4]))
      rw [List.append_assoc, List.append_assoc] at this
      exact this
    generalize ks[i] = k at *
    cases gb : getB b k with
    | false =>
      simp only [Bool.not_false, cond_true]
      exact fin _ (by simp only [pick, gb, cond_false])
    | true =>
      cases ga : getB a k with
      | false =>
        simp only [Bool.not_true, cond_false]
        exact fin _ (by simp only [pick, gb, ga, cond_true, Bool.false_and, cond_false])
      | true =>
        cases hk : k == ext with
        | true =>
          have hk' : (k == ([101, 120, 116, 101, 110, 100, 115] : List UInt8)) = true := hk
          simp only [hk', Bool.not_true, cond_true, cond_false]
          exact fin _ (by simp only [pick, gb, ga, hk, cond_true, Bool.not_true, Bool.and_false, cond_false])
        | false =>
          have hk' : (k == ([101, 120, 116, 101, 110, 100, 115] : List UInt8)) = false := hk
          have ho : okT n (getV a k) (getV b k) = true := by simp only [okT, wf_get ha ga, wf_get hb gb, Bool.and_self]
          simp only [hk', ho, Bool.not_true, Bool.not_false, cond_true, cond_false]
          exact fin _ (by simp only [pick, gb, ga, hk, cond_true, Bool.not_false, Bool.and_self])
theorem not_pairs (a b : Node) : (bif a.kind != 3 then true else b.kind != 3) = !(pairsV a b) := by
  unfold pairsV bne
  cases a.kind == 3 <;> cases b.kind == 3 <;> rfl
theorem rtwo_ok (n : Nat) : FnOk E rtwo_id (rtwo_W n) := by
  induction n with
  | zero => exact fn2_bot rtwo_ex fun x y => rfl
  | succ n ih =>
    refine rtwo_ok_of n ih fun a b hk => ?_
    simp only [okT, Bool.and_eq_true] at hk
    have ha := wf_iff.1 hk.1
    have hb := wf_iff.1 hk.2
    have h5 : ln5 a.keys b.keys = true := by simp only [ln5, decide_eq_true_eq]; omega
    simp only [rtwo_t, not_pairs, node_eta, h5, cond_true, twoV]
    cases hp : pairsV a b with
    | false => rfl
    | true =>
      have hl := both_len a.keys b.keys
      have := Gr_of (rtwo_loop n ih a b hk.1 hk.2 (both a.keys b.keys) (by omega) 0 [] _ 0 [] [] rfl (Nat.zero_le _) rfl rfl)
      rw [List.drop_zero, List.nil_append, List.nil_append] at this
      exact this
def okR (n : Nat) (a b : Node) (p : List UInt8) : Bool := okC n [] p a b
def rchgV (n : Nat) (a b : Node) (p : List UInt8) : List (List UInt8) := chgL n p a b
noncomputable def rchg_W (n : Nat) : FnW E := fn3 (E := E) .api_Node .api_Node .str .l_str (okR n) (rchgV n)
def rchg_id : FuncId := 11
noncomputable def rchg_O (n : Nat) : Oracle E := orac [(19, rboth_W), (20, rget_W), (6, rnsame_W 12), (11, rchg_W n)] [] [] []
noncomputable def rchg_H : Hint E := Hint.mk [(0, [2, 3, 4, 7, 8, 9]), (1, [2, 3, 4, 7, 8, 9, 15, 16])] [] []
noncomputable def rchg_C0 (v0 : List UInt8) (v1 : Nat) (v2 : List (List UInt8)) (v3 : Int) (v4 : Int) (v5 : List UInt8) (v6 : List (List UInt8)) (v7 : List Node) (v8 : Int) (v9 : List UInt8) (v10 : List (List UInt8)) (v11 : List Node) (v12 : List (List UInt8)) : ASt E := ASt.mk 99 [(2, .d (.str v0)), (3, .ptr 0 0), (4, .ptr 1 0), (7, .row .str v1 2), (8, .d (.slice .str v2)), (9, .d (.int .i64 v3))] [(0, .box [.d (.int .i64 v4), .d (.str v5), .d (.slice .str v6), .d (.slice .api_Node v7)]), (1, .box [.d (.int .i64 v8), .d (.str v9), .d (.slice .str v10), .d (.slice .api_Node v11)]), (2, .row .str v12)] 3
noncomputable def rchg_C1 (v0 : List UInt8) (v1 : Nat) (v2 : List (List UInt8)) (v3 : Int) (v4 : List (List UInt8)) (v5 : Int) (v6 : Int) (v7 : List UInt8) (v8 : List (List UInt8)) (v9 : List Node) (v10 : Int) (v11 : List UInt8) (v12 : List (List UInt8)) (v13 : List Node) (v14 : List (List UInt8)) : ASt E := ASt.mk 99 [(2, .d (.str v0)), (3, .ptr 0 0), (4, .ptr 1 0), (7, .row .str v1 2), (8, .d (.slice .str v2)), (9, .d (.int .i64 v3)), (15, .d (.slice .str v4)), (16, .d (.int .i64 v5))] [(0, .box [.d (.int .i64 v6), .d (.str v7), .d (.slice .str v8), .d (.slice .api_Node v9)]), (1, .box [.d (.int .i64 v10), .d (.str v11), .d (.slice .str v12), .d (.slice .api_Node v13)]), (2, .row .str v14)] 3
noncomputable def rchg_t (_n : Nat) (G : Nat → ASt E → Option (List (TV E))) (x0 : Node) (x1 : Node) (x2 : List UInt8) : Option (List (TV E)) :=
  bif (bif (x0.kind != (3 : Int)) then true else (x1.kind != (3 : Int))) then (bif ((okS 12) (⟨x0.kind, x0.text, x0.keys, x0.kids⟩ : Node) (⟨x1.kind, x1.text, x1.keys, x1.kids⟩ : Node)) then (bif (!((same 12) (⟨x0.kind, x0.text, x0.keys, x0.kids⟩ : Node) (⟨x1.kind, x1.text, x1.keys, x1.kids⟩ : Node))) then (bif (decide ((([] : List (List UInt8)).length + ([x2] : List (List UInt8)).length) * 16 ≤ maxBytes)) then some [⟨.l_str, (([] : List (List UInt8)) ++ ([x2] : List (List UInt8)))⟩] else none) else some [⟨.l_str, ([] : List (List UInt8))⟩]) else none) else (bif (ln5 x0.keys x1.keys) then G 0 (rchg_C0 x2 0 (both x0.keys x1.keys) (0 : Int) x0.kind x0.text x0.keys x0.kids x1.kind x1.text x1.keys x1.kids ([] : List (List UInt8))) else none)
theorem rchg_e (n : Nat) (G : Nat → ASt E → Option (List (TV E))) (x0 : Node) (x1 : Node) (x2 : List UInt8) : runE (rchg_O n) rchg_H G Try.f11 [⟨.api_Node, x0⟩, ⟨.api_Node, x1⟩, ⟨.str, x2⟩] = rchg_t n G x0 x1 x2 := by kernel_rfl
noncomputable def rchg_t0 (n : Nat) (G : Nat → ASt E → Option (List (TV E))) (v0 : List UInt8) (v1 : Nat) (v2 : List (List UInt8)) (v3 : Int) (v4 : Int) (v5 : List UInt8) (v6 : List (List UInt8)) (v7 : List Node) (v8 : Int) (v9 : List UInt8) (v10 : List (List UInt8)) (v11 : List Node) (v12 : List (List UInt8)) : Option (List (TV E)) :=
  bif (decide (v3 < (v2.length : Int))) then (bif (decide ((0 : Int) ≤ v3) && decide (v3 < (v2.length : Int))) then (bif (!(v0 == ([] : List UInt8))) then (bif (decide (v0.length + ([10] : List UInt8).length ≤ maxStr)) then (bif (decide ((v0 ++ ([10] : List UInt8)).length + (List.getD v2 (Int.toNat v3) (dflt .str)).length ≤ maxStr)) then (bif (decide ((0 : Int) ≤ v3) && decide (v3 < (v2.length : Int))) then (bif ((fun n _ => fit n) (⟨v4, v5, v6, v7⟩ : Node) (List.getD v2 (Int.toNat v3) (dflt .str))) then (bif (decide ((0 : Int) ≤ v3) && decide (v3 < (v2.length : Int))) then (bif ((fun n _ => fit n) (⟨v8, v9, v10, v11⟩ : Node) (List.getD v2 (Int.toNat v3) (dflt .str))) then (bif (!((getB (⟨v4, v5, v6, v7⟩ : Node) (List.getD v2 (Int.toNat v3) (dflt .str))) == (getB (⟨v8, v9, v10, v11⟩ : Node) (List.getD v2 (Int.toNat v3) (dflt .str))))) then (bif (decide ((v12.length + ([((v0 ++ ([10] : List UInt8)) ++ (List.getD v2 (Int.toNat v3) (dflt .str)))] : List (List UInt8)).length) * 16 ≤ maxBytes)) then G 0 (rchg_C0 v0 (v12.length + ([((v0 ++ ([10] : List UInt8)) ++ (List.getD v2 (Int.toNat v3) (dflt .str)))] : List (List UInt8)).length) v2 (w64 (v3 + (1 : Int))) v4 v5 v6 v7 v8 v9 v10 v11 (v12 ++ ([((v0 ++ ([10] : List UInt8)) ++ (List.getD v2 (Int.toNat v3) (dflt .str)))] : List (List UInt8)))) else none) else (bif ((okR n) (⟨(getV (⟨v4, v5, v6, v7⟩ : Node) (List.getD v2 (Int.toNat v3) (dflt .str))).kind, (getV (⟨v4, v5, v6, v7⟩ : Node) (List.getD v2 (Int.toNat v3) (dflt .str))).text, (getV (⟨v4, v5, v6, v7⟩ : Node) (List.getD v2 (Int.toNat v3) (dflt .str))).keys, (getV (⟨v4, v5, v6, v7⟩ : Node) (List.getD v2 (Int.toNat v3) (dflt .str))).kids⟩ : Node) (⟨(getV (⟨v8, v9, v10, v11⟩ : Node) (List.getD v2 (Int.toNat v3) (dflt .str))).kind, (getV (⟨v8, v9, v10, v11⟩ : Node) (List.getD v2 (Int.toNat v3) (dflt .str))).text, (getV (⟨v8, v9, v10, v11⟩ : Node) (List.getD v2 (Int.toNat v3) (dflt .str))).keys, (getV (⟨v8, v9, v10, v11⟩ : Node) (List.getD v2 (Int.toNat v3) (dflt .str))).kids⟩ : Node) ((v0 ++ ([10] : List UInt8)) ++ (List.getD v2 (Int.toNat v3) (dflt .str)))) then G 1 (rchg_C1 v0 v1 v2 v3 ((rchgV n) (⟨(getV (⟨v4, v5, v6, v7⟩ : Node) (List.getD v2 (Int.toNat v3) (dflt .str))).kind, (getV (⟨v4, v5, v6, v7⟩ : Node) (List.getD v2 (Int.toNat v3) (dflt .str))).text, (getV (⟨v4, v5, v6, v7⟩ : Node) (List.getD v2 (Int.toNat v3) (dflt .str))).keys, (getV (⟨v4, v5, v6, v7⟩ : Node) (List.getD v2 (Int.toNat v3) (dflt .str))).kids⟩ : Node) (⟨(getV (⟨v8, v9, v10, v11⟩ : Node) (List.getD v2 (Int.toNat v3) (dflt .str))).kind, (getV (⟨v8, v9, v10, v11⟩ : Node) (List.getD v2 (Int.toNat v3) (dflt .str))).text, (getV (⟨v8, v9, v10, v11⟩ : Node) (List.getD v2 (Int.toNat v3) (dflt .str))).keys, (getV (⟨v8, v9, v10, v11⟩ : Node) (List.getD v2 (Int.toNat v3) (dflt .str))).kids⟩ : Node) ((v0 ++ ([10] : List UInt8)) ++ (List.getD v2 (Int.toNat v3) (dflt .str)))) (0 : Int) v4 v5 v6 v7 v8 v9 v10 v11 v12) else none)) else none) else none) else none) else none) else none) else none) else (bif (decide ((0 : Int) ≤ v3) && decide (v3 < (v2.length : Int))) then (bif ((fun n _ => fit n) (⟨v4, v5, v6, v7⟩ : Node) (List.getD v2 (Int.toNat v3) (dflt .str))) then (bif (decide ((0 : Int) ≤ v3) && decide (v3 < (v2.length : Int))) then (bif ((fun n _ => fit n) (⟨v8, v9, v10, v11⟩ : Node) (List.getD v2 (Int.toNat v3) (dflt .str))) then (bif (!((getB (⟨v4, v5, v6, v7⟩ : Node) (List.getD v2 (Int.toNat v3) (dflt .str))) == (getB (⟨v8, v9, v10, v11⟩ : Node) (List.getD v2 (Int.toNat v3) (dflt .str))))) then (bif (decide ((v12.length + ([(List.getD v2 (Int.toNat v3) (dflt .str))] : List (List UInt8)).length) * 16 ≤ maxBytes)) then G 0 (rchg_C0 v0 (v12.length + ([(List.getD v2 (Int.toNat v3) (dflt .str))] : List (List UInt8)).length) v2 (w64 (v3 + (1 : Int))) v4 v5 v6 v7 v8 v9 v10 v11 (v12 ++ ([(List.getD v2 (Int.toNat v3) (dflt .str))] : List (List UInt8)))) else none) else (bif ((okR n) (⟨(getV (⟨v4, v5, v6, v7⟩ : Node) (List.getD v2 (Int.toNat v3) (dflt .str))).kind, (getV (⟨v4, v5, v6, v7⟩ : Node) (List.getD v2 (Int.toNat v3) (dflt .str))).text, (getV (⟨v4, v5, v6, v7⟩ : Node) (List.getD v2 (Int.toNat v3) (dflt .str))).keys, (getV (⟨v4, v5, v6, v7⟩ : Node) (List.getD v2 (Int.toNat v3) (dflt .str))).kids⟩ : Node) (⟨(getV (⟨v8, v9, v10, v11⟩ : Node) (List.getD v2 (Int.toNat v3) (dflt .str))).kind, (getV (⟨v8, v9, v10, v11⟩ : Node) (List.getD v2 (Int.toNat v3) (dflt .str))).text, (getV (⟨v8, v9, v10, v11⟩ : Node) (List.getD v2 (Int.toNat v3) (dflt .str))).keys, (getV (⟨v8, v9, v10, v11⟩ : Node) (List.getD v2 (Int.toNat v3) (dflt .str))).kids⟩ : Node) (List.getD v2 (Int.toNat v3) (dflt .str))) then G 1 (rchg_C1 v0 v1 v2 v3 ((rchgV n) (⟨(getV (⟨v4, v5, v6, v7⟩ : Node) (List.getD v2 (Int.toNat v3) (dflt .str))).kind, (getV (⟨v4, v5, v6, v7⟩ : Node) (List.getD v2 (Int.toNat v3) (dflt .str))).text, (getV (⟨v4, v5, v6, v7⟩ : Node) (List.getD v2 (Int.toNat v3) (dflt .str))).keys, (getV (⟨v4, v5, v6, v7⟩ : Node) (List.getD v2 (Int.toNat v3) (dflt .str))).kids⟩ : Node) (⟨(getV (⟨v8, v9, v10, v11⟩ : Node) (List.getD v2 (Int.toNat v3) (dflt .str))).kind, (getV (⟨v8, v9, v10, v11⟩ : Node) (List.getD v2 (Int.toNat v3) (dflt .str))).text, (getV (⟨v8, v9, v10, v11⟩ : Node) (List.getD v2 (Int.toNat v3) (dflt .str))).keys, (getV (⟨v8, v9, v10, v11⟩ : Node) (List.getD v2 (Int.toNat v3) (dflt .str))).kids⟩ : Node) (List.getD v2 (Int.toNat v3) (dflt .str))) (0 : Int) v4 v5 v6 v7 v8 v9 v10 v11 v12) else none)) else none) else none) else none) else none)) else none) else some [⟨.l_str, v12⟩]
theorem rchg_l0 (n : Nat) (G : Nat → ASt E → Option (List (TV E))) (v0 : List UInt8) (v1 : Nat) (v2 : List (List UInt8)) (v3 : Int) (v4 : Int) (v5 : List UInt8) (v6 : List (List UInt8)) (v7 : List Node) (v8 : Int) (v9 : List UInt8) (v10 : List (List UInt8)) (v11 : List Node) (v12 : List (List UInt8)) : runL (rchg_O n) rchg_H G Try.f11 0 (rchg_C0 v0 v1 v2 v3 v4 v5 v6 v7 v8 v9 v10 v11 v12) = rchg_t0 n G v0 v1 v2 v3 v4 v5 v6 v7 v8 v9 v10 v11 v12 := by kernel_rfl
noncomputable def rchg_t1 (_n : Nat) (G : Nat → ASt E → Option (List (TV E))) (v0 : List UInt8) (v1 : Nat) (v2 : List (List UInt8)) (v3 : Int) (v4 : List (List UInt8)) (v5 : Int) (v6 : Int) (v7 : List UInt8) (v8 : List (List UInt8)) (v9 : List Node) (v10 : Int) (v11 : List UInt8) (v12 : List (List UInt8)) (v13 : List Node) (v14 : List (List UInt8)) : Option (List (TV E)) :=
  bif (decide (v5 < (v4.length : Int))) then (bif (decide ((0 : Int) ≤ v5) && decide (v5 < (v4.length : Int))) then (bif (decide ((v14.length + ([(List.getD v4 (Int.toNat v5) (dflt .str))] : List (List UInt8)).length) * 16 ≤ maxBytes)) then G 1 (rchg_C1 v0 (v14.length + ([(List.getD v4 (Int.toNat v5) (dflt .str))] : List (List UInt8)).length) v2 v3 v4 (w64 (v5 + (1 : Int))) v6 v7 v8 v9 v10 v11 v12 v13 (v14 ++ ([(List.getD v4 (Int.toNat v5) (dflt .str))] : List (List UInt8)))) else none) else none) else G 0 (rchg_C0 v0 v1 v2 (w64 (v3 + (1 : Int))) v6 v7 v8 v9 v10 v11 v12 v13 v14)
theorem rchg_l1 (n : Nat) (G : Nat → ASt E → Option (List (TV E))) (v0 : List UInt8) (v1 : Nat) (v2 : List (List UInt8)) (v3 : Int) (v4 : List (List UInt8)) (v5 : Int) (v6 : Int) (v7 : List UInt8) (v8 : List (List UInt8)) (v9 : List Node) (v10 : Int) (v11 : List UInt8) (v12 : List (List UInt8)) (v13 : List Node) (v14 : List (List UInt8)) : runL (rchg_O n) rchg_H G Try.f11 1 (rchg_C1 v0 v1 v2 v3 v4 v5 v6 v7 v8 v9 v10 v11 v12 v13 v14) = rchg_t1 n G v0 v1 v2 v3 v4 v5 v6 v7 v8 v9 v10 v11 v12 v13 v14 := by kernel_rfl
theorem rchg_f : Try.prog.funcs[11]? = some Try.f11 := by kernel_rfl
theorem rchg_n : (Try.f11.name == "runtime.NumGoroutine") = false := by kernel_rfl
theorem rchg_b : Try.f11.body.isNone = false := by kernel_rfl
theorem rchg_ex : ∃ fn, Try.prog.funcs[11]? = some fn ∧ (fn.name == "runtime.NumGoroutine") = false ∧ fn.body.isNone = false := ⟨Try.f11, rchg_f, rchg_n, rchg_b⟩
theorem rchg_hO (n : Nat) (ih : FnOk E rchg_id (rchg_W n)) : OracleOk E (rchg_O n) := orac_ok (.cons rboth_ok (.cons rget_ok (.cons (rnsame_ok 12) (.cons ih .nil)))) .nil .nil .nil
theorem rchg_s0 (n : Nat) (ih : FnOk E rchg_id (rchg_W n)) {res : List (TV E)} {v0 : List UInt8} {v1 : Nat} {v2 : List (List UInt8)} {v3 : Int} {v4 : Int} {v5 : List UInt8} {v6 : List (List UInt8)} {v7 : List Node} {v8 : Int} {v9 : List UInt8} {v10 : List (List UInt8)} {v11 : List Node} {v12 : List (List UInt8)} (h : rchg_t0 n (Gr E Try.f11 res) v0 v1 v2 v3 v4 v5 v6 v7 v8 v9 v10 v11 v12 = some res) : Ev E Try.f11 res 0 (rchg_C0 v0 v1 v2 v3 v4 v5 v6 v7 v8 v9 v10 v11 v12) := Ev.step (rchg_hO n ih) mix ((rchg_l0 n _ v0 v1 v2 v3 v4 v5 v6 v7 v8 v9 v10 v11 v12).trans h)
theorem rchg_s1 (n : Nat) (ih : FnOk E rchg_id (rchg_W n)) {res : List (TV E)} {v0 : List UInt8} {v1 : Nat} {v2 : List (List UInt8)} {v3 : Int} {v4 : List (List UInt8)} {v5 : Int} {v6 : Int} {v7 : List UInt8} {v8 : List (List UInt8)} {v9 : List Node} {v10 : Int} {v11 : List UInt8} {v12 : List (List UInt8)} {v13 : List Node} {v14 : List (List UInt8)} (h : rchg_t1 n (Gr E Try.f11 res) v0 v1 v2 v3 v4 v5 v6 v7 v8 v9 v10 v11 v12 v13 v14 = some res) : Ev E Try.f11 res 1 (rchg_C1 v0 v1 v2 v3 v4 v5 v6 v7 v8 v9 v10 v11 v12 v13 v14) := Ev.step (rchg_hO n ih) mix ((rchg_l1 n _ v0 v1 v2 v3 v4 v5 v6 v7 v8 v9 v10 v11 v12 v13 v14).trans h)
theorem rchg_ok_of (n : Nat) (ih : FnOk E rchg_id (rchg_W n)) (h : ∀ (x0 : Node) (x1 : Node) (x2 : List UInt8), (okR (n + 1)) x0 x1 x2 = true → rchg_t n (Gr E Try.f11 [⟨.l_str, (rchgV (n + 1)) x0 x1 x2⟩]) x0 x1 x2 = some [⟨.l_str, (rchgV (n + 1)) x0 x1 x2⟩]) : FnOk E rchg_id (rchg_W (n + 1)) := fn3_ok (rchg_hO n ih) mix rchg_f rchg_n rchg_b (fun x0 x1 x2 hk => (rchg_e n _ x0 x1 x2).trans (h x0 x1 x2 hk))
theorem rchg_1 (n : Nat) (ih : FnOk E rchg_id (rchg_W n)) (res : List (TV E)) (p : List UInt8) (ks : List (List UInt8)) (i : Int) (a b : Node) (sub : List (List UInt8)) : ∀ (m j v : Nat) (out : List (List UInt8)), sub.length - j = m → j ≤ sub.length → (out ++ sub.drop j).length ≤ 1000000 → sub.length ≤ 1000000 →
      (∀ v, Ev E Try.f11 res 0 (rchg_C0 p v ks (w64 (i + 1)) a.kind a.text a.keys a.kids b.kind b.text b.keys b.kids (out ++ sub.drop j))) →
      Ev E Try.f11 res 1 (rchg_C1 p v ks i sub j a.kind a.text a.keys a.kids b.kind b.text b.keys b.kids out) := by
  intro m
  induction m with
  | zero =>
    intro j v out h1 h2 h3 h4 h5
    refine rchg_s1 n ih ?_
    rw [List.drop_eq_nil_of_le (show sub.length ≤ j by omega), List.append_nil] at h5
    simp only [rchg_t1, dge (show sub.length ≤ j by omega), cond_false]
    exact Gr_of (h5 v)
  | succ m ih2 =>
    intro j v out h1 h2 h3 h4 h5
    have hj : j < sub.length := by omega
    have e1 : decide ((out.length + [sub[j]].length) * 16 ≤ maxBytes) = true := dT (by rw [mb, List.length_singleton]; rw [List.length_append] at h3; omega)
    have e3 : w64 ((j : Int) + 1) = ((j + 1 : Nat) : Int) := by rw [w64_id (by omega) (by omega)]; omega
    refine rchg_s1 n ih ?_
    simp only [rchg_t1, dlt hj, d0, gd sub _ j hj, Bool.and_self, cond_true, e1, e3]
    rw [← List.getElem_cons_drop hj, List.append_cons] at h3
    rw [← List.getElem_cons_drop hj, List.append_cons] at h5
    exact Gr_of (ih2 (j + 1) _ (out ++ [sub[j]]) (by omega) (by omega) h3 h4 h5)
theorem rchg_0 (n : Nat) (ih : FnOk E rchg_id (rchg_W n)) (hn : n + 1 ≤ 12) (a b : Node) (ha : wf 200 (n + 1) a = true) (hb : wf 200 (n + 1) b = true) (p : List UInt8) (hp : p.length ≤ 201 * (12 - n)) (ks : List (List UInt8)) (hks : ks.length ≤ 400)
    (hm : ∀ k ∈ ks, k.length ≤ 200 ∧ (getB a k = true ∨ getB b k = true)) : ∀ (m i v0 : Nat) (out : List (List UInt8)), ks.length - i = m → i ≤ ks.length → (out ++ (ks.drop i).flatMap (stepC (chgL n) (pre p) a b)).length ≤ 1000000 →
      Ev E Try.f11 [⟨.l_str, out ++ (ks.drop i).flatMap (stepC (chgL n) (pre p) a b)⟩] 0 (rchg_C0 p v0 ks i a.kind a.text a.keys a.kids b.kind b.text b.keys b.kids out) := by
  have fa := wf_fit ha (by decide)
  have fb := wf_fit hb (by decide)
  intro m
  induction m with
  | zero =>
    intro i v0 out h1 h2 h3
    refine rchg_s0 n ih ?_
    simp only [rchg_t0, dge (show ks.length ≤ i by omega), cond_false, List.drop_eq_nil_of_le (show ks.length ≤ i by omega), List.flatMap_nil, List.append_nil]
  | succ m ih2 =>
    intro i v0 out h1 h2 h3
    have hi : i < ks.length := by omega
    obtain ⟨hk1, hk2⟩ := hm ks[i] (List.getElem_mem hi)
    have e0 : decide (p.length + [(10 : UInt8)].length ≤ maxStr) = true := dT (by rw [ms, List.length_singleton]; omega)
    have e0' : decide ((p ++ [(10 : UInt8)]).length + ks[i].length ≤ maxStr) = true := dT (by rw [ms, List.length_append, List.length_singleton]; omega)
    have e3 : w64 ((i : Int) + 1) = ((i + 1 : Nat) : Int) := by rw [w64_id (by omega) (by omega)]; omega
    have hpl := pre_len p
    refine rchg_s0 n ih ?_
    rw [← List.getElem_cons_drop hi, List.flatMap_cons, ← List.append_assoc] at h3 ⊢
    simp only [rchg_t0, dlt hi, d0, gd ks _ i hi, Bool.and_self, cond_true, node_eta, fa, fb, e0, e0', e3]
    generalize ks[i] = k at *
    have hl : (out ++ stepC (chgL n) (pre p) a b k).length ≤ 1000000 := by rw [List.length_append] at h3; omega
    have fin : ∀ q, q = pre p ++ k → ∀ G, G = Gr E Try.f11 [⟨.l_str, out ++ stepC (chgL n) (pre p) a b k ++ (ks.drop (i + 1)).flatMap (stepC (chgL n) (pre p) a b)⟩] →
        (bif !(getB a k == getB b k) then (bif decide ((out.length + [q].length) * 16 ≤ maxBytes) then G 0 (rchg_C0 p (out.length + [q].length) ks ((i + 1 : Nat) : Int) a.kind a.text a.keys a.kids b.kind b.text b.keys b.kids (out ++ [q])) else none)
          else (bif okR n (getV a k) (getV b k) q then G 1 (rchg_C1 p v0 ks i (rchgV n (getV a k) (getV b k) q) 0 a.kind a.text a.keys a.kids b.kind b.text b.keys b.kids out) else none)) = some [⟨.l_str, out ++ stepC (chgL n) (pre p) a b k ++ (ks.drop (i + 1)).flatMap (stepC (chgL n) (pre p) a b)⟩] := by
      rintro q rfl G rfl
      cases hg : getB a k == getB b k with
      | false =>
        have es : stepC (chgL n) (pre p) a b k = [pre p ++ k] := by simp only [stepC, hg, cond_false]
        have e1 : decide ((out.length + [pre p ++ k].length) * 16 ≤ maxBytes) = true := dT (by rw [mb]; rw [es, List.length_append] at hl; omega)
        simp only [Bool.not_false, cond_true, e1]
        rw [es] at h3 ⊢
        exact Gr_of (ih2 (i + 1) _ _ (by omega) (by omega) h3)
      | true =>
        have es : stepC (chgL n) (pre p) a b k = chgL n (pre p ++ k) (getV a k) (getV b k) := by simp only [stepC, hg, cond_true]
        have hg' : getB a k = getB b k := by simpa using hg
        have ga : getB a k = true := hk2.elim id (fun h => hg'.trans h)
        have gb : getB b k = true := hg' ▸ ga
        rw [es] at h3 hl ⊢
        have hl2 : (chgL n (pre p ++ k) (getV a k) (getV b k)).length ≤ 1000000 := by rw [List.length_append] at hl; omega
        have e1 : okR n (getV a k) (getV b k) (pre p ++ k) = true := okC_iff.2 ⟨⟨⟨⟨by omega, wf_get ha ga⟩, wf_get hb gb⟩, by rw [List.length_append]; omega⟩, by rw [List.nil_append]; exact hl2⟩
        simp only [Bool.not_true, cond_false, e1, cond_true]
        refine Gr_of (rchg_1 n ih _ p ks i a b _ _ 0 v0 out rfl (Nat.zero_le _) ?_ ?_ fun v => ?_)
        · rw [List.drop_zero]; exact hl
        · exact hl2
        · rw [List.drop_zero, e3]
          exact ih2 (i + 1) v _ (by omega) (by omega) h3
    cases hz : p == ([] : List UInt8) with
    | false =>
      simp only [Bool.not_false, cond_true]
      exact fin (p ++ [10] ++ k) (by simp only [pre, hz, cond_false]) _ rfl
    | true =>
      simp only [Bool.not_true, cond_false]
      exact fin k (by
        have : p = [] := by simpa using hz
        subst this; rfl) _ rfl
theorem rchg_ok (n : Nat) : FnOk E rchg_id (rchg_W n) := by
  induction n with
  | zero => exact fn3_bot rchg_ex fun x y z => by simp [okR, okC, wf]
  | succ n ih =>
    refine rchg_ok_of n ih fun a b p hk => ?_
    obtain ⟨⟨⟨⟨hn, hwa⟩, hwb⟩, hp⟩, hlen⟩ := okC_iff.1 hk
    have ha := wf_iff.1 hwa
    have hb := wf_iff.1 hwb
    have h5 : ln5 a.keys b.keys = true := by simp only [ln5, decide_eq_true_eq]; omega
    have hok : okS 12 a b = true := by simp only [okS, wf_dp12 (by decide) hn hwa, wf_dp12 (by decide) hn hwb, Bool.and_self]
    rw [List.nil_append] at hlen
    simp only [rchg_t, not_pairs, node_eta, h5, hok, cond_true, rchgV]
    unfold chgL at hlen ⊢
    cases hpr : pairsV a b with
    | false =>
      rw [hpr, cond_false] at hlen
      simp only [Bool.not_false, cond_true, cond_false]
      cases hs : same 12 a b with
      | false => rfl
      | true => rfl
    | true =>
      rw [hpr, cond_true] at hlen
      simp only [Bool.not_true, cond_false, cond_true]
      have hl := both_len a.keys b.keys
      obtain ⟨k3, k3'⟩ := pairsV_iff.1 hpr
      have main := Gr_of (rchg_0 n ih hn a b hwa hwb p (by omega) (both a.keys b.keys) (by omega) (fun k hk => by
        rcases mem_both hk with h | h
        · exact ⟨ha.2.2.2.2.1 _ h, .inl (getB_of hwa k3 h)⟩
        · exact ⟨hb.2.2.2.2.1 _ h, .inr (getB_of hwb k3' h)⟩) _ 0 0 [] rfl (Nat.zero_le _) (by rw [List.nil_append]; exact hlen))
      rw [List.drop_zero, List.nil_append] at main
      exact main
end Go.Proofs.Ytnbohemhgbkdlaa.Bl