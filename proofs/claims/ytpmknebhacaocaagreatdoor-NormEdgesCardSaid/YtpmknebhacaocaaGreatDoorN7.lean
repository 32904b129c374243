/- The program's forms of fields: variables and labels. -/
import Derived.Test.YtpmknebhacaocaaGreatDoorN6
namespace Go.Proofs.YtpmknebhacaocaaGreatDoor.Rf
open Go Go.RowKit Go.Sort Go.Proofs.YtpmknebhacaocaaGreatDoor.Mir
/-! ### Package norm: Pairs -/
def eqS1 : List UInt8 := [61]
def pr0 (f : List UInt8 → Bool) : List (List UInt8) → Node → Bool → Node × Bool
  | [], o, b => (o, b)
  | s :: t, o, b => pr0 f t (withP o (cutA s eqS1) (txt1 (cutB s eqS1))) (bif b then true else (bif getB o (cutA s eqS1) then true else !(f (cutA s eqS1))))
def pr1 (f : List UInt8 → Bool) : List (List UInt8) → List Node → Node → Bool → Node × Bool
  | s :: t, y :: r, o, b => pr1 f t r (withP o s (txt1 y.text)) (bif b then true else (bif decide ((1 : Int) < y.kind) then true else !(f s)))
  | _, _, o, b => (o, b)
def rightV (vars : Bool) (s : List UInt8) : Bool := bif vars then ofV v1B v2B s else ofV s1B s2B s
def prP (n : Node) (vars : Bool) : Node × Bool := bif txsB n then pr0 (rightV vars) (txsL n) zn false else bif memB n 3 then pr1 (rightV vars) n.keys n.kids zn false else (zn, true)
def prsV (n : Node) (vars : Bool) : Node := dnV (prP n vars).1 (prP n vars).2
def prsE (n : Node) (vars : Bool) : Int := dnE (prP n vars).1 (prP n vars).2
def okPrs (n : Node) (_ : Bool) : Bool := decide (n.kind = 3 → n.keys.length = n.kids.length) && decide (n.keys.length ≤ 1000000) && decide (n.kids.length ≤ 1000000) && (txsL n).all (fun s => decide (s.length ≤ 1000000)) && n.keys.all (fun s => decide (s.length ≤ 1000000))
theorem txt1_wg (s : List UInt8) : wg 10000 11 (txt1 s) = true := by simp [txt1, wg]
theorem Gt.fit {o : Node} {L : Nat} (h : Gt o L) (hL : L ≤ 1000000) : fit o = true := fit_iff.2 ⟨⟨by have := h.le; omega, by have := h.le; have := h.len; omega⟩, fun _ => h.len⟩
theorem cutA_len (s p : List UInt8) : (cutA s p).length ≤ s.length := by
  unfold cutA
  cases decide (0 ≤ ixV s p)
  · exact Nat.le_refl _
  · show (List.take _ s).length ≤ s.length
    rw [List.length_take]; omega
noncomputable def npairs_W : FnW E := fn22 (E := E) .api_Node .bool .api_Node .api_Errno okPrs prsV prsE
def npairs_id : FuncId := 28
noncomputable def npairs_O : Oracle E := withI (orac [(69, nService_W), (70, nVariable_W), (71, nget_W), (54, ndsorted_W 12), (62, ntext_W), (52, nwith_W), (66, ntexts_W), (49, scut_W)] [] [] []) [(14, Tryz.f14), (17, Tryz.f17), (18, Tryz.f18), (20, Tryz.f20), (21, Tryz.f21)]
noncomputable def npairs_H : Hint E := Hint.mk [(0, [4, 6, 7, 27, 28, 29]), (1, [2, 4, 6, 7, 69, 70, 71])] [] [(0, [(6, some 2, false, .str), (6, some 3, false, .api_Node)]), (1, [(6, some 2, false, .str), (6, some 3, false, .api_Node)])] [] []
noncomputable def npairs_C0_69 (v0 : List (List UInt8)) (v1 : Int) (v2 : Int) (v3 : Int) (v4 : List UInt8) (v5 : Int) (v6 : List UInt8) (v7 : List (List UInt8)) (v8 : List Node) (v9 : Bool) : ASt E := ASt.mk 100 [(4, .ptr 0 0), (6, .ptr 1 0), (7, .d (.raw (.func (.func 69) #[] #[]))), (27, .d (.slice .str v0)), (28, .d (.int .i64 v1)), (29, .d (.int .i64 v2))] [(0, .box [.d (.int .i64 v3), .d (.str v4), .d (.raw (.slice none 0 0)), .d (.raw (.slice none 0 0))]), (1, .box [.d (.int .i64 v5), .d (.str v6), .d (.slice .str v7), .d (.slice .api_Node v8), .d (.bool v9)])] 2
noncomputable def npairs_C0_70 (v0 : List (List UInt8)) (v1 : Int) (v2 : Int) (v3 : Int) (v4 : List UInt8) (v5 : Int) (v6 : List UInt8) (v7 : List (List UInt8)) (v8 : List Node) (v9 : Bool) : ASt E := ASt.mk 100 [(4, .ptr 0 0), (6, .ptr 1 0), (7, .d (.raw (.func (.func 70) #[] #[]))), (27, .d (.slice .str v0)), (28, .d (.int .i64 v1)), (29, .d (.int .i64 v2))] [(0, .box [.d (.int .i64 v3), .d (.str v4), .d (.raw (.slice none 0 0)), .d (.raw (.slice none 0 0))]), (1, .box [.d (.int .i64 v5), .d (.str v6), .d (.slice .str v7), .d (.slice .api_Node v8), .d (.bool v9)])] 2
noncomputable def npairs_C1_69 (v0 : List (List UInt8)) (v1 : Int) (v2 : Int) (v3 : Int) (v4 : List UInt8) (v5 : List (List UInt8)) (v6 : List Node) (v7 : Int) (v8 : List UInt8) (v9 : Int) (v10 : List UInt8) (v11 : List (List UInt8)) (v12 : List Node) (v13 : Bool) : ASt E := ASt.mk 100 [(2, .ptr 0 0), (4, .ptr 1 0), (6, .ptr 2 0), (7, .d (.raw (.func (.func 69) #[] #[]))), (69, .d (.slice .str v0)), (70, .d (.int .i64 v1)), (71, .d (.int .i64 v2))] [(0, .box [.d (.int .i64 v3), .d (.str v4), .d (.slice .str v5), .d (.slice .api_Node v6)]), (1, .box [.d (.int .i64 v7), .d (.str v8), .d (.raw (.slice none 0 0)), .d (.raw (.slice none 0 0))]), (2, .box [.d (.int .i64 v9), .d (.str v10), .d (.slice .str v11), .d (.slice .api_Node v12), .d (.bool v13)])] 3
noncomputable def npairs_C1_70 (v0 : List (List UInt8)) (v1 : Int) (v2 : Int) (v3 : Int) (v4 : List UInt8) (v5 : List (List UInt8)) (v6 : List Node) (v7 : Int) (v8 : List UInt8) (v9 : Int) (v10 : List UInt8) (v11 : List (List UInt8)) (v12 : List Node) (v13 : Bool) : ASt E := ASt.mk 100 [(2, .ptr 0 0), (4, .ptr 1 0), (6, .ptr 2 0), (7, .d (.raw (.func (.func 70) #[] #[]))), (69, .d (.slice .str v0)), (70, .d (.int .i64 v1)), (71, .d (.int .i64 v2))] [(0, .box [.d (.int .i64 v3), .d (.str v4), .d (.slice .str v5), .d (.slice .api_Node v6)]), (1, .box [.d (.int .i64 v7), .d (.str v8), .d (.raw (.slice none 0 0)), .d (.raw (.slice none 0 0))]), (2, .box [.d (.int .i64 v9), .d (.str v10), .d (.slice .str v11), .d (.slice .api_Node v12), .d (.bool v13)])] 3
noncomputable def npairs_t (G : Nat → ASt E → Option (List (TV E))) (x0 : Node) (x1 : Bool) : Option (List (TV E)) :=
  bif x1 then (bif (okTx (⟨x0.kind, x0.text, x0.keys, x0.kids⟩ : Node)) then (bif (txsB (⟨x0.kind, x0.text, x0.keys, x0.kids⟩ : Node)) then G 0 (npairs_C0_70 (txsL (⟨x0.kind, x0.text, x0.keys, x0.kids⟩ : Node)) ((txsL (⟨x0.kind, x0.text, x0.keys, x0.kids⟩ : Node)).length : Int) (0 : Int) (0 : Int) ([] : List UInt8) (0 : Int) ([] : List UInt8) ([] : List (List UInt8)) ([] : List Node) false) else (bif (!(bif (x0.kind == (3 : Int)) then (decide ((x0.kids.length : Int) ≤ (32 : Int))) else false)) then some [⟨.api_Node, (⟨(0 : Int), ([] : List UInt8), ([] : List (List UInt8)), ([] : List Node)⟩ : Node)⟩, ⟨.api_Errno, (10 : Int)⟩] else G 1 (npairs_C1_70 x0.keys (x0.keys.length : Int) (0 : Int) x0.kind x0.text x0.keys x0.kids (0 : Int) ([] : List UInt8) (0 : Int) ([] : List UInt8) ([] : List (List UInt8)) ([] : List Node) false))) else none) else (bif (okTx (⟨x0.kind, x0.text, x0.keys, x0.kids⟩ : Node)) then (bif (txsB (⟨x0.kind, x0.text, x0.keys, x0.kids⟩ : Node)) then G 0 (npairs_C0_69 (txsL (⟨x0.kind, x0.text, x0.keys, x0.kids⟩ : Node)) ((txsL (⟨x0.kind, x0.text, x0.keys, x0.kids⟩ : Node)).length : Int) (0 : Int) (0 : Int) ([] : List UInt8) (0 : Int) ([] : List UInt8) ([] : List (List UInt8)) ([] : List Node) false) else (bif (!(bif (x0.kind == (3 : Int)) then (decide ((x0.kids.length : Int) ≤ (32 : Int))) else false)) then some [⟨.api_Node, (⟨(0 : Int), ([] : List UInt8), ([] : List (List UInt8)), ([] : List Node)⟩ : Node)⟩, ⟨.api_Errno, (10 : Int)⟩] else G 1 (npairs_C1_69 x0.keys (x0.keys.length : Int) (0 : Int) x0.kind x0.text x0.keys x0.kids (0 : Int) ([] : List UInt8) (0 : Int) ([] : List UInt8) ([] : List (List UInt8)) ([] : List Node) false))) else none)
theorem npairs_e (G : Nat → ASt E → Option (List (TV E))) (x0 : Node) (x1 : Bool) : runE npairs_O npairs_H G Tryz.f28 [⟨.api_Node, x0⟩, ⟨.bool, x1⟩] = npairs_t G x0 x1 := by kernel_rfl
noncomputable def npairs_t0_69 (G : Nat → ASt E → Option (List (TV E))) (v0 : List (List UInt8)) (v1 : Int) (v2 : Int) (v3 : Int) (v4 : List UInt8) (v5 : Int) (v6 : List UInt8) (v7 : List (List UInt8)) (v8 : List Node) (v9 : Bool) : Option (List (TV E)) :=
  bif (decide (v2 < v1)) then (bif (decide ((0 : Int) ≤ v2) && decide (v2 < (v0.length : Int))) then (bif (okIx (List.getD v0 (Int.toNat v2) (dflt .str)) ([61] : List UInt8)) then (bif ((fun n _ => fit n) (⟨v5, v6, v7, v8⟩ : Node) (cutA (List.getD v0 (Int.toNat v2) (dflt .str)) ([61] : List UInt8))) then (bif ((okNm1 (cutA (List.getD v0 (Int.toNat v2) (dflt .str)) ([61] : List UInt8))) || !(!(getB (⟨v5, v6, v7, v8⟩ : Node) (cutA (List.getD v0 (Int.toNat v2) (dflt .str)) ([61] : List UInt8))))) then (bif (okWp (⟨v5, v6, v7, v8⟩ : Node) (cutA (List.getD v0 (Int.toNat v2) (dflt .str)) ([61] : List UInt8)) (⟨(txt1 (cutB (List.getD v0 (Int.toNat v2) (dflt .str)) ([61] : List UInt8))).kind, (txt1 (cutB (List.getD v0 (Int.toNat v2) (dflt .str)) ([61] : List UInt8))).text, (txt1 (cutB (List.getD v0 (Int.toNat v2) (dflt .str)) ([61] : List UInt8))).keys, (txt1 (cutB (List.getD v0 (Int.toNat v2) (dflt .str)) ([61] : List UInt8))).kids⟩ : Node)) then G 0 (npairs_C0_69 v0 v1 (w64 (v2 + (1 : Int))) v3 v4 ((withP (⟨v5, v6, v7, v8⟩ : Node) (cutA (List.getD v0 (Int.toNat v2) (dflt .str)) ([61] : List UInt8)) (⟨(txt1 (cutB (List.getD v0 (Int.toNat v2) (dflt .str)) ([61] : List UInt8))).kind, (txt1 (cutB (List.getD v0 (Int.toNat v2) (dflt .str)) ([61] : List UInt8))).text, (txt1 (cutB (List.getD v0 (Int.toNat v2) (dflt .str)) ([61] : List UInt8))).keys, (txt1 (cutB (List.getD v0 (Int.toNat v2) (dflt .str)) ([61] : List UInt8))).kids⟩ : Node)).kind) ((withP (⟨v5, v6, v7, v8⟩ : Node) (cutA (List.getD v0 (Int.toNat v2) (dflt .str)) ([61] : List UInt8)) (⟨(txt1 (cutB (List.getD v0 (Int.toNat v2) (dflt .str)) ([61] : List UInt8))).kind, (txt1 (cutB (List.getD v0 (Int.toNat v2) (dflt .str)) ([61] : List UInt8))).text, (txt1 (cutB (List.getD v0 (Int.toNat v2) (dflt .str)) ([61] : List UInt8))).keys, (txt1 (cutB (List.getD v0 (Int.toNat v2) (dflt .str)) ([61] : List UInt8))).kids⟩ : Node)).text) ((withP (⟨v5, v6, v7, v8⟩ : Node) (cutA (List.getD v0 (Int.toNat v2) (dflt .str)) ([61] : List UInt8)) (⟨(txt1 (cutB (List.getD v0 (Int.toNat v2) (dflt .str)) ([61] : List UInt8))).kind, (txt1 (cutB (List.getD v0 (Int.toNat v2) (dflt .str)) ([61] : List UInt8))).text, (txt1 (cutB (List.getD v0 (Int.toNat v2) (dflt .str)) ([61] : List UInt8))).keys, (txt1 (cutB (List.getD v0 (Int.toNat v2) (dflt .str)) ([61] : List UInt8))).kids⟩ : Node)).keys) ((withP (⟨v5, v6, v7, v8⟩ : Node) (cutA (List.getD v0 (Int.toNat v2) (dflt .str)) ([61] : List UInt8)) (⟨(txt1 (cutB (List.getD v0 (Int.toNat v2) (dflt .str)) ([61] : List UInt8))).kind, (txt1 (cutB (List.getD v0 (Int.toNat v2) (dflt .str)) ([61] : List UInt8))).text, (txt1 (cutB (List.getD v0 (Int.toNat v2) (dflt .str)) ([61] : List UInt8))).keys, (txt1 (cutB (List.getD v0 (Int.toNat v2) (dflt .str)) ([61] : List UInt8))).kids⟩ : Node)).kids) (bif v9 then true else (bif (getB (⟨v5, v6, v7, v8⟩ : Node) (cutA (List.getD v0 (Int.toNat v2) (dflt .str)) ([61] : List UInt8))) then true else (!((ofV s1B s2B) (cutA (List.getD v0 (Int.toNat v2) (dflt .str)) ([61] : List UInt8))))))) else none) else none) else none) else none) else none) else (bif (bif v9 then true else (decide ((32 : Int) < (v7.length : Int)))) then some [⟨.api_Node, (⟨(0 : Int), ([] : List UInt8), ([] : List (List UInt8)), ([] : List Node)⟩ : Node)⟩, ⟨.api_Errno, (10 : Int)⟩] else (bif ((wg 10000 12) (⟨(3 : Int), v6, v7, v8⟩ : Node)) then some [⟨.api_Node, (⟨((sortP 12) (⟨(3 : Int), v6, v7, v8⟩ : Node)).kind, ((sortP 12) (⟨(3 : Int), v6, v7, v8⟩ : Node)).text, ((sortP 12) (⟨(3 : Int), v6, v7, v8⟩ : Node)).keys, ((sortP 12) (⟨(3 : Int), v6, v7, v8⟩ : Node)).kids⟩ : Node)⟩, ⟨.api_Errno, (0 : Int)⟩] else none))
theorem npairs_l0_69 (G : Nat → ASt E → Option (List (TV E))) (v0 : List (List UInt8)) (v1 : Int) (v2 : Int) (v3 : Int) (v4 : List UInt8) (v5 : Int) (v6 : List UInt8) (v7 : List (List UInt8)) (v8 : List Node) (v9 : Bool) : runL npairs_O npairs_H G Tryz.f28 0 (npairs_C0_69 v0 v1 v2 v3 v4 v5 v6 v7 v8 v9) = npairs_t0_69 G v0 v1 v2 v3 v4 v5 v6 v7 v8 v9 := by kernel_rfl
noncomputable def npairs_t0_70 (G : Nat → ASt E → Option (List (TV E))) (v0 : List (List UInt8)) (v1 : Int) (v2 : Int) (v3 : Int) (v4 : List UInt8) (v5 : Int) (v6 : List UInt8) (v7 : List (List UInt8)) (v8 : List Node) (v9 : Bool) : Option (List (TV E)) :=
  bif (decide (v2 < v1)) then (bif (decide ((0 : Int) ≤ v2) && decide (v2 < (v0.length : Int))) then (bif (okIx (List.getD v0 (Int.toNat v2) (dflt .str)) ([61] : List UInt8)) then (bif ((fun n _ => fit n) (⟨v5, v6, v7, v8⟩ : Node) (cutA (List.getD v0 (Int.toNat v2) (dflt .str)) ([61] : List UInt8))) then (bif ((okNm1 (cutA (List.getD v0 (Int.toNat v2) (dflt .str)) ([61] : List UInt8))) || !(!(getB (⟨v5, v6, v7, v8⟩ : Node) (cutA (List.getD v0 (Int.toNat v2) (dflt .str)) ([61] : List UInt8))))) then (bif (okWp (⟨v5, v6, v7, v8⟩ : Node) (cutA (List.getD v0 (Int.toNat v2) (dflt .str)) ([61] : List UInt8)) (⟨(txt1 (cutB (List.getD v0 (Int.toNat v2) (dflt .str)) ([61] : List UInt8))).kind, (txt1 (cutB (List.getD v0 (Int.toNat v2) (dflt .str)) ([61] : List UInt8))).text, (txt1 (cutB (List.getD v0 (Int.toNat v2) (dflt .str)) ([61] : List UInt8))).keys, (txt1 (cutB (List.getD v0 (Int.toNat v2) (dflt .str)) ([61] : List UInt8))).kids⟩ : Node)) then G 0 (npairs_C0_70 v0 v1 (w64 (v2 + (1 : Int))) v3 v4 ((withP (⟨v5, v6, v7, v8⟩ : Node) (cutA (List.getD v0 (Int.toNat v2) (dflt .str)) ([61] : List UInt8)) (⟨(txt1 (cutB (List.getD v0 (Int.toNat v2) (dflt .str)) ([61] : List UInt8))).kind, (txt1 (cutB (List.getD v0 (Int.toNat v2) (dflt .str)) ([61] : List UInt8))).text, (txt1 (cutB (List.getD v0 (Int.toNat v2) (dflt .str)) ([61] : List UInt8))).keys, (txt1 (cutB (List.getD v0 (Int.toNat v2) (dflt .str)) ([61] : List UInt8))).kids⟩ : Node)).kind) ((withP (⟨v5, v6, v7, v8⟩ : Node) (cutA (List.getD v0 (Int.toNat v2) (dflt .str)) ([61] : List UInt8)) (⟨(txt1 (cutB (List.getD v0 (Int.toNat v2) (dflt .str)) ([61] : List UInt8))).kind, (txt1 (cutB (List.getD v0 (Int.toNat v2) (dflt .str)) ([61] : List UInt8))).text, (txt1 (cutB (List.getD v0 (Int.toNat v2) (dflt .str)) ([61] : List UInt8))).keys, (txt1 (cutB (List.getD v0 (Int.toNat v2) (dflt .str)) ([61] : List UInt8))).kids⟩ : Node)).text) ((withP (⟨v5, v6, v7, v8⟩ : Node) (cutA (List.getD v0 (Int.toNat v2) (dflt .str)) ([61] : List UInt8)) (⟨(txt1 (cutB (List.getD v0 (Int.toNat v2) (dflt .str)) ([61] : List UInt8))).kind, (txt1 (cutB (List.getD v0 (Int.toNat v2) (dflt .str)) ([61] : List UInt8))).text, (txt1 (cutB (List.getD v0 (Int.toNat v2) (dflt .str)) ([61] : List UInt8))).keys, (txt1 (cutB (List.getD v0 (Int.toNat v2) (dflt .str)) ([61] : List UInt8))).kids⟩ : Node)).keys) ((withP (⟨v5, v6, v7, v8⟩ : Node) (cutA (List.getD v0 (Int.toNat v2) (dflt .str)) ([61] : List UInt8)) (⟨(txt1 (cutB (List.getD v0 (Int.toNat v2) (dflt .str)) ([61] : List UInt8))).kind, (txt1 (cutB (List.getD v0 (Int.toNat v2) (dflt .str)) ([61] : List UInt8))).text, (txt1 (cutB (List.getD v0 (Int.toNat v2) (dflt .str)) ([61] : List UInt8))).keys, (txt1 (cutB (List.getD v0 (Int.toNat v2) (dflt .str)) ([61] : List UInt8))).kids⟩ : Node)).kids) (bif v9 then true else (bif (getB (⟨v5, v6, v7, v8⟩ : Node) (cutA (List.getD v0 (Int.toNat v2) (dflt .str)) ([61] : List UInt8))) then true else (!((ofV v1B v2B) (cutA (List.getD v0 (Int.toNat v2) (dflt .str)) ([61] : List UInt8))))))) else none) else none) else none) else none) else none) else (bif (bif v9 then true else (decide ((32 : Int) < (v7.length : Int)))) then some [⟨.api_Node, (⟨(0 : Int), ([] : List UInt8), ([] : List (List UInt8)), ([] : List Node)⟩ : Node)⟩, ⟨.api_Errno, (10 : Int)⟩] else (bif ((wg 10000 12) (⟨(3 : Int), v6, v7, v8⟩ : Node)) then some [⟨.api_Node, (⟨((sortP 12) (⟨(3 : Int), v6, v7, v8⟩ : Node)).kind, ((sortP 12) (⟨(3 : Int), v6, v7, v8⟩ : Node)).text, ((sortP 12) (⟨(3 : Int), v6, v7, v8⟩ : Node)).keys, ((sortP 12) (⟨(3 : Int), v6, v7, v8⟩ : Node)).kids⟩ : Node)⟩, ⟨.api_Errno, (0 : Int)⟩] else none))
theorem npairs_l0_70 (G : Nat → ASt E → Option (List (TV E))) (v0 : List (List UInt8)) (v1 : Int) (v2 : Int) (v3 : Int) (v4 : List UInt8) (v5 : Int) (v6 : List UInt8) (v7 : List (List UInt8)) (v8 : List Node) (v9 : Bool) : runL npairs_O npairs_H G Tryz.f28 0 (npairs_C0_70 v0 v1 v2 v3 v4 v5 v6 v7 v8 v9) = npairs_t0_70 G v0 v1 v2 v3 v4 v5 v6 v7 v8 v9 := by kernel_rfl
noncomputable def npairs_t1_69 (G : Nat → ASt E → Option (List (TV E))) (v0 : List (List UInt8)) (v1 : Int) (v2 : Int) (v3 : Int) (v4 : List UInt8) (v5 : List (List UInt8)) (v6 : List Node) (v7 : Int) (v8 : List UInt8) (v9 : Int) (v10 : List UInt8) (v11 : List (List UInt8)) (v12 : List Node) (v13 : Bool) : Option (List (TV E)) :=
  bif (decide (v2 < v1)) then (bif (decide ((0 : Int) ≤ v2) && decide (v2 < (v0.length : Int))) then (bif (decide ((0 : Int) ≤ v2) && decide (v2 < (v6.length : Int))) then (bif ((okNm1 (List.getD v0 (Int.toNat v2) (dflt .str))) || !(!(decide ((1 : Int) < (List.getD v6 (Int.toNat v2) (dflt .api_Node)).kind)))) then (bif (okWp (⟨v9, v10, v11, v12⟩ : Node) (List.getD v0 (Int.toNat v2) (dflt .str)) (⟨(txt1 ((List.getD v6 (Int.toNat v2) (dflt .api_Node)).text)).kind, (txt1 ((List.getD v6 (Int.toNat v2) (dflt .api_Node)).text)).text, (txt1 ((List.getD v6 (Int.toNat v2) (dflt .api_Node)).text)).keys, (txt1 ((List.getD v6 (Int.toNat v2) (dflt .api_Node)).text)).kids⟩ : Node)) then G 1 (npairs_C1_69 v0 v1 (w64 (v2 + (1 : Int))) v3 v4 v5 v6 v7 v8 ((withP (⟨v9, v10, v11, v12⟩ : Node) (List.getD v0 (Int.toNat v2) (dflt .str)) (⟨(txt1 ((List.getD v6 (Int.toNat v2) (dflt .api_Node)).text)).kind, (txt1 ((List.getD v6 (Int.toNat v2) (dflt .api_Node)).text)).text, (txt1 ((List.getD v6 (Int.toNat v2) (dflt .api_Node)).text)).keys, (txt1 ((List.getD v6 (Int.toNat v2) (dflt .api_Node)).text)).kids⟩ : Node)).kind) ((withP (⟨v9, v10, v11, v12⟩ : Node) (List.getD v0 (Int.toNat v2) (dflt .str)) (⟨(txt1 ((List.getD v6 (Int.toNat v2) (dflt .api_Node)).text)).kind, (txt1 ((List.getD v6 (Int.toNat v2) (dflt .api_Node)).text)).text, (txt1 ((List.getD v6 (Int.toNat v2) (dflt .api_Node)).text)).keys, (txt1 ((List.getD v6 (Int.toNat v2) (dflt .api_Node)).text)).kids⟩ : Node)).text) ((withP (⟨v9, v10, v11, v12⟩ : Node) (List.getD v0 (Int.toNat v2) (dflt .str)) (⟨(txt1 ((List.getD v6 (Int.toNat v2) (dflt .api_Node)).text)).kind, (txt1 ((List.getD v6 (Int.toNat v2) (dflt .api_Node)).text)).text, (txt1 ((List.getD v6 (Int.toNat v2) (dflt .api_Node)).text)).keys, (txt1 ((List.getD v6 (Int.toNat v2) (dflt .api_Node)).text)).kids⟩ : Node)).keys) ((withP (⟨v9, v10, v11, v12⟩ : Node) (List.getD v0 (Int.toNat v2) (dflt .str)) (⟨(txt1 ((List.getD v6 (Int.toNat v2) (dflt .api_Node)).text)).kind, (txt1 ((List.getD v6 (Int.toNat v2) (dflt .api_Node)).text)).text, (txt1 ((List.getD v6 (Int.toNat v2) (dflt .api_Node)).text)).keys, (txt1 ((List.getD v6 (Int.toNat v2) (dflt .api_Node)).text)).kids⟩ : Node)).kids) (bif v13 then true else (bif (decide ((1 : Int) < (List.getD v6 (Int.toNat v2) (dflt .api_Node)).kind)) then true else (!((ofV s1B s2B) (List.getD v0 (Int.toNat v2) (dflt .str))))))) else none) else none) else none) else none) else (bif (bif v13 then true else (decide ((32 : Int) < (v11.length : Int)))) then some [⟨.api_Node, (⟨(0 : Int), ([] : List UInt8), ([] : List (List UInt8)), ([] : List Node)⟩ : Node)⟩, ⟨.api_Errno, (10 : Int)⟩] else (bif ((wg 10000 12) (⟨(3 : Int), v10, v11, v12⟩ : Node)) then some [⟨.api_Node, (⟨((sortP 12) (⟨(3 : Int), v10, v11, v12⟩ : Node)).kind, ((sortP 12) (⟨(3 : Int), v10, v11, v12⟩ : Node)).text, ((sortP 12) (⟨(3 : Int), v10, v11, v12⟩ : Node)).keys, ((sortP 12) (⟨(3 : Int), v10, v11, v12⟩ : Node)).kids⟩ : Node)⟩, ⟨.api_Errno, (0 : Int)⟩] else none))
theorem npairs_l1_69 (G : Nat → ASt E → Option (List (TV E))) (v0 : List (List UInt8)) (v1 : Int) (v2 : Int) (v3 : Int) (v4 : List UInt8) (v5 : List (List UInt8)) (v6 : List Node) (v7 : Int) (v8 : List UInt8) (v9 : Int) (v10 : List UInt8) (v11 : List (List UInt8)) (v12 : List Node) (v13 : Bool) : runL npairs_O npairs_H G Tryz.f28 1 (npairs_C1_69 v0 v1 v2 v3 v4 v5 v6 v7 v8 v9 v10 v11 v12 v13) = npairs_t1_69 G v0 v1 v2 v3 v4 v5 v6 v7 v8 v9 v10 v11 v12 v13 := by kernel_rfl
noncomputable def npairs_t1_70 (G : Nat → ASt E → Option (List (TV E))) (v0 : List (List UInt8)) (v1 : Int) (v2 : Int) (v3 : Int) (v4 : List UInt8) (v5 : List (List UInt8)) (v6 : List Node) (v7 : Int) (v8 : List UInt8) (v9 : Int) (v10 : List UInt8) (v11 : List (List UInt8)) (v12 : List Node) (v13 : Bool) : Option (List (TV E)) :=
  bif (decide (v2 < v1)) then (bif (decide ((0 : Int) ≤ v2) && decide (v2 < (v0.length : Int))) then (bif (decide ((0 : Int) ≤ v2) && decide (v2 < (v6.length : Int))) then (bif ((okNm1 (List.getD v0 (Int.toNat v2) (dflt .str))) || !(!(decide ((1 : Int) < (List.getD v6 (Int.toNat v2) (dflt .api_Node)).kind)))) then (bif (okWp (⟨v9, v10, v11, v12⟩ : Node) (List.getD v0 (Int.toNat v2) (dflt .str)) (⟨(txt1 ((List.getD v6 (Int.toNat v2) (dflt .api_Node)).text)).kind, (txt1 ((List.getD v6 (Int.toNat v2) (dflt .api_Node)).text)).text, (txt1 ((List.getD v6 (Int.toNat v2) (dflt .api_Node)).text)).keys, (txt1 ((List.getD v6 (Int.toNat v2) (dflt .api_Node)).text)).kids⟩ : Node)) then G 1 (npairs_C1_70 v0 v1 (w64 (v2 + (1 : Int))) v3 v4 v5 v6 v7 v8 ((withP (⟨v9, v10, v11, v12⟩ : Node) (List.getD v0 (Int.toNat v2) (dflt .str)) (⟨(txt1 ((List.getD v6 (Int.toNat v2) (dflt .api_Node)).text)).kind, (txt1 ((List.getD v6 (Int.toNat v2) (dflt .api_Node)).text)).text, (txt1 ((List.getD v6 (Int.toNat v2) (dflt .api_Node)).text)).keys, (txt1 ((List.getD v6 (Int.toNat v2) (dflt .api_Node)).text)).kids⟩ : Node)).kind) ((withP (⟨v9, v10, v11, v12⟩ : Node) (List.getD v0 (Int.toNat v2) (dflt .str)) (⟨(txt1 ((List.getD v6 (Int.toNat v2) (dflt .api_Node)).text)).kind, (txt1 ((List.getD v6 (Int.toNat v2) (dflt .api_Node)).text)).text, (txt1 ((List.getD v6 (Int.toNat v2) (dflt .api_Node)).text)).keys, (txt1 ((List.getD v6 (Int.toNat v2) (dflt .api_Node)).text)).kids⟩ : Node)).text) ((withP (⟨v9, v10, v11, v12⟩ : Node) (List.getD v0 (Int.toNat v2) (dflt .str)) (⟨(txt1 ((List.getD v6 (Int.toNat v2) (dflt .api_Node)).text)).kind, (txt1 ((List.getD v6 (Int.toNat v2) (dflt .api_Node)).text)).text, (txt1 ((List.getD v6 (Int.toNat v2) (dflt .api_Node)).text)).keys, (txt1 ((List.getD v6 (Int.toNat v2) (dflt .api_Node)).text)).kids⟩ : Node)).keys) ((withP (⟨v9, v10, v11, v12⟩ : Node) (List.getD v0 (Int.toNat v2) (dflt .str)) (⟨(txt1 ((List.getD v6 (Int.toNat v2) (dflt .api_Node)).text)).kind, (txt1 ((List.getD v6 (Int.toNat v2) (dflt .api_Node)).text)).text, (txt1 ((List.getD v6 (Int.toNat v2) (dflt .api_Node)).text)).keys, (txt1 ((List.getD v6 (Int.toNat v2) (dflt .api_Node)).text)).kids⟩ : Node)).kids) (bif v13 then true else (bif (decide ((1 : Int) < (List.getD v6 (Int.toNat v2) (dflt .api_Node)).kind)) then true else (!((ofV v1B v2B) (List.getD v0 (Int.toNat v2) (dflt .str))))))) else none) else none) else none) else none) else (bif (bif v13 then true else (decide ((32 : Int) < (v11.length : Int)))) then some [⟨.api_Node, (⟨(0 : Int), ([] : List UInt8), ([] : List (List UInt8)), ([] : List Node)⟩ : Node)⟩, ⟨.api_Errno, (10 : Int)⟩] else (bif ((wg 10000 12) (⟨(3 : Int), v10, v11, v12⟩ : Node)) then some [⟨.api_Node, (⟨((sortP 12) (⟨(3 : Int), v10, v11, v12⟩ : Node)).kind, ((sortP 12) (⟨(3 : Int), v10, v11, v12⟩ : Node)).text, ((sortP 12) (⟨(3 : Int), v10, v11, v12⟩ : Node)).keys, ((sortP 12) (⟨(3 : Int), v10, v11, v12⟩ : Node)).kids⟩ : Node)⟩, ⟨.api_Errno, (0 : Int)⟩] else none))
theorem npairs_l1_70 (G : Nat → ASt E → Option (List (TV E))) (v0 : List (List UInt8)) (v1 : Int) (v2 : Int) (v3 : Int) (v4 : List UInt8) (v5 : List (List UInt8)) (v6 : List Node) (v7 : Int) (v8 : List UInt8) (v9 : Int) (v10 : List UInt8) (v11 : List (List UInt8)) (v12 : List Node) (v13 : Bool) : runL npairs_O npairs_H G Tryz.f28 1 (npairs_C1_70 v0 v1 v2 v3 v4 v5 v6 v7 v8 v9 v10 v11 v12 v13) = npairs_t1_70 G v0 v1 v2 v3 v4 v5 v6 v7 v8 v9 v10 v11 v12 v13 := by kernel_rfl
theorem npairs_f : Tryz.prog.funcs[28]? = some Tryz.f28 := by kernel_rfl
theorem npairs_n : (Tryz.f28.name == "runtime.NumGoroutine") = false := by kernel_rfl
theorem npairs_b : Tryz.f28.body.isNone = false := by kernel_rfl
theorem npairs_ex : ∃ fn, Tryz.prog.funcs[28]? = some fn ∧ (fn.name == "runtime.NumGoroutine") = false ∧ fn.body.isNone = false := ⟨Tryz.f28, npairs_f, npairs_n, npairs_b⟩
theorem npairs_hO : OracleOk E npairs_O := withI_ok (orac_ok (.cons nService_ok (.cons nVariable_ok (.cons nget_ok (.cons (ndsorted_ok 12) (.cons ntext_ok (.cons nwith_ok (.cons ntexts_ok (.cons scut_ok .nil)))))))) .nil .nil .nil) mix (.cons (f := 14) (fn := Tryz.f14) (by kernel_rfl) (by kernel_rfl) (by kernel_rfl) (.cons (f := 17) (fn := Tryz.f17) (by kernel_rfl) (by kernel_rfl) (by kernel_rfl) (.cons (f := 18) (fn := Tryz.f18) (by kernel_rfl) (by kernel_rfl) (by kernel_rfl) (.cons (f := 20) (fn := Tryz.f20) (by kernel_rfl) (by kernel_rfl) (by kernel_rfl) (.cons (f := 21) (fn := Tryz.f21) (by kernel_rfl) (by kernel_rfl) (by kernel_rfl) .nil)))))
theorem npairs_s0_69 {res : List (TV E)} {v0 : List (List UInt8)} {v1 : Int} {v2 : Int} {v3 : Int} {v4 : List UInt8} {v5 : Int} {v6 : List UInt8} {v7 : List (List UInt8)} {v8 : List Node} {v9 : Bool} (h : npairs_t0_69 (Gr E Tryz.f28 res) v0 v1 v2 v3 v4 v5 v6 v7 v8 v9 = some res) : Ev E Tryz.f28 res 0 (npairs_C0_69 v0 v1 v2 v3 v4 v5 v6 v7 v8 v9) := Ev.step npairs_hO mix ((npairs_l0_69 _ v0 v1 v2 v3 v4 v5 v6 v7 v8 v9).trans h)
theorem npairs_s0_70 {res : List (TV E)} {v0 : List (List UInt8)} {v1 : Int} {v2 : Int} {v3 : Int} {v4 : List UInt8} {v5 : Int} {v6 : List UInt8} {v7 : List (List UInt8)} {v8 : List Node} {v9 : Bool} (h : npairs_t0_70 (Gr E Tryz.f28 res) v0 v1 v2 v3 v4 v5 v6 v7 v8 v9 = some res) : Ev E Tryz.f28 res 0 (npairs_C0_70 v0 v1 v2 v3 v4 v5 v6 v7 v8 v9) := Ev.step npairs_hO mix ((npairs_l0_70 _ v0 v1 v2 v3 v4 v5 v6 v7 v8 v9).trans h)
theorem npairs_s1_69 {res : List (TV E)} {v0 : List (List UInt8)} {v1 : Int} {v2 : Int} {v3 : Int} {v4 : List UInt8} {v5 : List (List UInt8)} {v6 : List Node} {v7 : Int} {v8 : List UInt8} {v9 : Int} {v10 : List UInt8} {v11 : List (List UInt8)} {v12 : List Node} {v13 : Bool} (h : npairs_t1_69 (Gr E Tryz.f28 res) v0 v1 v2 v3 v4 v5 v6 v7 v8 v9 v10 v11 v12 v13 = some res) : Ev E Tryz.f28 res 1 (npairs_C1_69 v0 v1 v2 v3 v4 v5 v6 v7 v8 v9 v10 v11 v12 v13) := Ev.step npairs_hO mix ((npairs_l1_69 _ v0 v1 v2 v3 v4 v5 v6 v7 v8 v9 v10 v11 v12 v13).trans h)
theorem npairs_s1_70 {res : List (TV E)} {v0 : List (List UInt8)} {v1 : Int} {v2 : Int} {v3 : Int} {v4 : List UInt8} {v5 : List (List UInt8)} {v6 : List Node} {v7 : Int} {v8 : List UInt8} {v9 : Int} {v10 : List UInt8} {v11 : List (List UInt8)} {v12 : List Node} {v13 : Bool} (h : npairs_t1_70 (Gr E Tryz.f28 res) v0 v1 v2 v3 v4 v5 v6 v7 v8 v9 v10 v11 v12 v13 = some res) : Ev E Tryz.f28 res 1 (npairs_C1_70 v0 v1 v2 v3 v4 v5 v6 v7 v8 v9 v10 v11 v12 v13) := Ev.step npairs_hO mix ((npairs_l1_70 _ v0 v1 v2 v3 v4 v5 v6 v7 v8 v9 v10 v11 v12 v13).trans h)
theorem npairs_ok_of (h : ∀ (x0 : Node) (x1 : Bool), okPrs x0 x1 = true → npairs_t (Gr E Tryz.f28 [⟨.api_Node, prsV x0 x1⟩, ⟨.api_Errno, prsE x0 x1⟩]) x0 x1 = some [⟨.api_Node, prsV x0 x1⟩, ⟨.api_Errno, prsE x0 x1⟩]) : FnOk E npairs_id npairs_W := fn22_ok npairs_hO mix npairs_f npairs_n npairs_b (fun x0 x1 hk => (npairs_e _ x0 x1).trans (h x0 x1 hk))
theorem npairs_0_s (l : List (List UInt8)) (hl : l.length ≤ 1000000) (hs : ∀ s ∈ l, s.length ≤ 1000000) (u3 : Int) (u4 : List UInt8) : ∀ (m i : Nat) (o : Node) (bad : Bool), l.length - i = m → i ≤ l.length → Gt o i →
    Ev E Tryz.f28 [⟨.api_Node, dnV (pr0 (ofV s1B s2B) (l.drop i) o bad).1 (pr0 (ofV s1B s2B) (l.drop i) o bad).2⟩, ⟨.api_Errno, dnE (pr0 (ofV s1B s2B) (l.drop i) o bad).1 (pr0 (ofV s1B s2B) (l.drop i) o bad).2⟩] 0 (npairs_C0_69 l l.length i u3 u4 o.kind o.text o.keys o.kids bad) := by
  intro m
  induction m with
  | zero =>
    intro i o bad h1 h2 h3
    refine npairs_s0_69 ?_
    simp only [npairs_t0_69, dge (show l.length ≤ i by omega), cond_false, List.drop_eq_nil_of_le (show l.length ≤ i by omega), pr0, dnV, dnE, node_eta]
    cases hf : failB o bad with
    | true =>
      have hf' : (bif bad then true else decide ((32 : Int) < (o.keys.length : Int))) = true := hf
      rw [hf']; rfl
    | false =>
      have hf' : (bif bad then true else decide ((32 : Int) < (o.keys.length : Int))) = false := hf
      rw [hf', h3.wg hf]; rfl
  | succ m ih =>
    intro i o bad h1 h2 h3
    have hi : i < l.length := by omega
    have e3 : w64 ((i : Int) + 1) = ((i + 1 : Nat) : Int) := by rw [w64_id (by omega) (by omega)]; omega
    have hsl := hs _ (List.getElem_mem hi)
    have e4 : okIx l[i] [61] = true := by simp only [okIx, Bool.and_eq_true, decide_eq_true_eq]; exact ⟨hsl, rfl⟩
    have e5 : okNm1 (cutA l[i] [61]) = true := decide_eq_true (Nat.le_trans (cutA_len _ _) hsl)
    refine npairs_s0_69 ?_
    simp only [npairs_t0_69, dlt hi, d0, gd l _ i hi, Bool.and_self, Bool.true_or, cond_true, e3, e4, e5, node_eta, h3.okW (by omega), h3.fit (by omega)]
    have := Gr_of (ih (i + 1) (withP o (cutA l[i] eqS1) (txt1 (cutB l[i] eqS1))) (bif bad then true else (bif getB o (cutA l[i] eqS1) then true else !(ofV s1B s2B (cutA l[i] eqS1)))) (by omega) (by omega) (h3.put (txt1_wg _)))
    rw [← List.getElem_cons_drop hi]
    exact this
theorem npairs_1_s (ks : List (List UInt8)) (vs : List Node) (hkv : ks.length = vs.length) (hl : ks.length ≤ 1000000) (hs : ∀ s ∈ ks, s.length ≤ 1000000) (a3 : Int) (a4 : List UInt8) (a5 : List (List UInt8)) (u3 : Int) (u4 : List UInt8) : ∀ (m i : Nat) (o : Node) (bad : Bool), ks.length - i = m → i ≤ ks.length → Gt o i →
    Ev E Tryz.f28 [⟨.api_Node, dnV (pr1 (ofV s1B s2B) (ks.drop i) (vs.drop i) o bad).1 (pr1 (ofV s1B s2B) (ks.drop i) (vs.drop i) o bad).2⟩, ⟨.api_Errno, dnE (pr1 (ofV s1B s2B) (ks.drop i) (vs.drop i) o bad).1 (pr1 (ofV s1B s2B) (ks.drop i) (vs.drop i) o bad).2⟩] 1 (npairs_C1_69 ks ks.length i a3 a4 a5 vs u3 u4 o.kind o.text o.keys o.kids bad) := by
  intro m
  induction m with
  | zero =>
    intro i o bad h1 h2 h3
    refine npairs_s1_69 ?_
    simp only [npairs_t1_69, dge (show ks.length ≤ i by omega), cond_false, List.drop_eq_nil_of_le (show ks.length ≤ i by omega), pr1, dnV, dnE, node_eta]
    cases hf : failB o bad with
    | true =>
      have hf' : (bif bad then true else decide ((32 : Int) < (o.keys.length : Int))) = true := hf
      rw [hf']; rfl
    | false =>
      have hf' : (bif bad then true else decide ((32 : Int) < (o.keys.length : Int))) = false := hf
      rw [hf', h3.wg hf]; rfl
  | succ m ih =>
    intro i o bad h1 h2 h3
    have hi : i < ks.length := by omega
    have hj : i < vs.length := by omega
    have e3 : w64 ((i : Int) + 1) = ((i + 1 : Nat) : Int) := by rw [w64_id (by omega) (by omega)]; omega
    have e5 : okNm1 ks[i] = true := decide_eq_true (hs _ (List.getElem_mem hi))
    refine npairs_s1_69 ?_
    simp only [npairs_t1_69, dlt hi, dlt hj, d0, gd ks _ i hi, gd vs _ i hj, Bool.and_self, Bool.true_or, cond_true, e3, e5, node_eta, h3.okW (by omega)]
    have := Gr_of (ih (i + 1) (withP o ks[i] (txt1 vs[i].text)) (bif bad then true else (bif decide ((1 : Int) < vs[i].kind) then true else !(ofV s1B s2B ks[i]))) (by omega) (by omega) (h3.put (txt1_wg _)))
    rw [← List.getElem_cons_drop hi, ← List.getElem_cons_drop hj]
    exact this
theorem npairs_0_v (l : List (List UInt8)) (hl : l.length ≤ 1000000) (hs : ∀ s ∈ l, s.length ≤ 1000000) (u3 : Int) (u4 : List UInt8) : ∀ (m i : Nat) (o : Node) (bad : Bool), l.length - i = m → i ≤ l.length → Gt o i →
    Ev E Tryz.f28 [⟨.api_Node, dnV (pr0 (ofV v1B v2B) (l.drop i) o bad).1 (pr0 (ofV v1B v2B) (l.drop i) o bad).2⟩, ⟨.api_Errno, dnE (pr0 (ofV v1B v2B) (l.drop i) o bad).1 (pr0 (ofV v1B v2B) (l.drop i) o bad).2⟩] 0 (npairs_C0_70 l l.length i u3 u4 o.kind o.text o.keys o.kids bad) := by
  intro m
  induction m with
  | zero =>
    intro i o bad h1 h2 h3
    refine npairs_s0_70 ?_
    simp only [npairs_t0_70, dge (show l.length ≤ i by omega), cond_false, List.drop_eq_nil_of_le (show l.length ≤ i by omega), pr0, dnV, dnE, node_eta]
    cases hf : failB o bad with
    | true =>
      have hf' : (bif bad then true else decide ((32 : Int) < (o.keys.length : Int))) = true := hf
      rw [hf']; rfl
    | false =>
      have hf' : (bif bad then true else decide ((32 : Int) < (o.keys.length : Int))) = false := hf
      rw [hf', h3.wg hf]; rfl
  | succ m ih =>
    intro i o bad h1 h2 h3
    have hi : i < l.length := by omega
    have e3 : w64 ((i : Int) + 1) = ((i + 1 : Nat) : Int) := by rw [w64_id (by omega) (by omega)]; omega
    have hsl := hs _ (List.getElem_mem hi)
    have e4 : okIx l[i] [61] = true := by simp only [okIx, Bool.and_eq_true, decide_eq_true_eq]; exact ⟨hsl, rfl⟩
    have e5 : okNm1 (cutA l[i] [61]) = true := decide_eq_true (Nat.le_trans (cutA_len _ _) hsl)
    refine npairs_s0_70 ?_
    simp only [npairs_t0_70, dlt hi, d0, gd l _ i hi, Bool.and_self, Bool.true_or, cond_true, e3, e4, e5, node_eta, h3.okW (by omega), h3.fit (by omega)]
    have := Gr_of (ih (i + 1) (withP o (cutA l[i] eqS1) (txt1 (cutB l[i] eqS1))) (bif bad then true else (bif getB o (cutA l[i] eqS1) then true else !(ofV v1B v2B (cutA l[i] eqS1)))) (by omega) (by omega) (h3.put (txt1_wg _)))
    rw [← List.getElem_cons_drop hi]
    exact this
theorem npairs_1_v (ks : List (List UInt8)) (vs : List Node) (hkv : ks.length = vs.length) (hl : ks.length ≤ 1000000) (hs : ∀ s ∈ ks, s.length ≤ 1000000) (a3 : Int) (a4 : List UInt8) (a5 : List (List UInt8)) (u3 : Int) (u4 : List UInt8) : ∀ (m i : Nat) (o : Node) (bad : Bool), ks.length - i = m → i ≤ ks.length → Gt o i →
    Ev E Tryz.f28 [⟨.api_Node, dnV (pr1 (ofV v1B v2B) (ks.drop i) (vs.drop i) o bad).1 (pr1 (ofV v1B v2B) (ks.drop i) (vs.drop i) o bad).2⟩, ⟨.api_Errno, dnE (pr1 (ofV v1B v2B) (ks.drop i) (vs.drop i) o bad).1 (pr1 (ofV v1B v2B) (ks.drop i) (vs.drop i) o bad).2⟩] 1 (npairs_C1_70 ks ks.length i a3 a4 a5 vs u3 u4 o.kind o.text o.keys o.kids bad) := by
  intro m
  induction m with
  | zero =>
    intro i o bad h1 h2 h3
    refine npairs_s1_70 ?_
    simp only [npairs_t1_70, dge (show ks.length ≤ i by omega), cond_false, List.drop_eq_nil_of_le (show ks.length ≤ i by omega), pr1, dnV, dnE, node_eta]
    cases hf : failB o bad with
    | true =>
      have hf' : (bif bad then true else decide ((32 : Int) < (o.keys.length : Int))) = true := hf
      rw [hf']; rfl
    | false =>
      have hf' : (bif bad then true else decide ((32 : Int) < (o.keys.length : Int))) = false := hf
      rw [hf', h3.wg hf]; rfl
  | succ m ih =>
    intro i o bad h1 h2 h3
    have hi : i < ks.length := by omega
    have hj : i < vs.length := by omega
    have e3 : w64 ((i : Int) + 1) = ((i + 1 : Nat) : Int) := by rw [w64_id (by omega) (by omega)]; omega
    have e5 : okNm1 ks[i] = true := decide_eq_true (hs _ (List.getElem_mem hi))
    refine npairs_s1_70 ?_
    simp only [npairs_t1_70, dlt hi, dlt hj, d0, gd ks _ i hi, gd vs _ i hj, Bool.and_self, Bool.true_or, cond_true, e3, e5, node_eta, h3.okW (by omega)]
    have := Gr_of (ih (i + 1) (withP o ks[i] (txt1 vs[i].text)) (bif bad then true else (bif decide ((1 : Int) < vs[i].kind) then true else !(ofV v1B v2B ks[i]))) (by omega) (by omega) (h3.put (txt1_wg _)))
    rw [← List.getElem_cons_drop hi, ← List.getElem_cons_drop hj]
    exact this
theorem npairs_ok : FnOk E npairs_id npairs_W := npairs_ok_of fun n vars hk => by
  simp only [okPrs, Bool.and_eq_true, decide_eq_true_eq, List.all_eq_true] at hk
  obtain ⟨⟨⟨⟨h1, h1k⟩, h2⟩, h3⟩, h4⟩ := hk
  have e1 : okTx n = true := decide_eq_true h2
  have hL := Nat.le_trans (txsL_len n) h2
  simp only [npairs_t, node_eta, e1, cond_true]
  unfold prsV prsE prP
  cases vars with
  | true =>
    cases ht : txsB n with
    | true => exact Gr_of (npairs_0_v (txsL n) hL h3 0 [] _ 0 zn false rfl (Nat.zero_le _) Gt.nil)
    | false =>
      cases hm : memB n 3 with
      | true =>
        have hm' : (bif n.kind == 3 then decide ((n.kids.length : Int) ≤ 32) else false) = true := hm
        have h3k : n.kind = 3 := by
          cases hq : n.kind == 3 with
          | true => simpa using hq
          | false => rw [hq] at hm'; cases hm'
        simp only [hm', cond_true, cond_false, Bool.not_true]
        exact Gr_of (npairs_1_v n.keys n.kids (h1 h3k) h1k h4 n.kind n.text n.keys 0 [] _ 0 zn false rfl (Nat.zero_le _) Gt.nil)
      | false =>
        have hm' : (bif n.kind == 3 then decide ((n.kids.length : Int) ≤ 32) else false) = false := hm
        simp only [hm', cond_true, cond_false, Bool.not_false]
        rfl
  | false =>
    cases ht : txsB n with
    | true => exact Gr_of (npairs_0_s (txsL n) hL h3 0 [] _ 0 zn false rfl (Nat.zero_le _) Gt.nil)
    | false =>
      cases hm : memB n 3 with
      | true =>
        have hm' : (bif n.kind == 3 then decide ((n.kids.length : Int) ≤ 32) else false) = true := hm
        have h3k : n.kind = 3 := by
          cases hq : n.kind == 3 with
          | true => simpa using hq
          | false => rw [hq] at hm'; cases hm'
        simp only [hm', cond_true, cond_false, Bool.not_true]
        exact Gr_of (npairs_1_s n.keys n.kids (h1 h3k) h1k h4 n.kind n.text n.keys 0 [] _ 0 zn false rfl (Nat.zero_le _) Gt.nil)
      | false =>
        have hm' : (bif n.kind == 3 then decide ((n.kids.length : Int) ≤ 32) else false) = false := hm
        simp only [hm', cond_true, cond_false, Bool.not_false]
        rfl
end Go.Proofs.YtpmknebhacaocaaGreatDoor.Rf