/- The program's nodes: Text, With. -/
import Derived.Test.YtfoflgciceckoaaGreatDoorR3
import Derived.Test.YtfoflgciceckoaaGreatDoorMirX
namespace Go.Proofs.YtfoflgciceckoaaGreatDoor.Rf
open Go Go.RowKit Go.Sort Go.Proofs.YtfoflgciceckoaaGreatDoor.Mir
/-! ### Package node: Text, With -/
def txt1 (s : List UInt8) : Node := ⟨1, s, [], []⟩
noncomputable def ntext_W : FnW E := fn1 (E := E) .str .api_Node (fun _ => true) txt1
def ntext_id : FuncId := 62
noncomputable def ntext_O : Oracle E := orac [] [] [] []
noncomputable def ntext_H : Hint E := Hint.mk [] [] [] [] []
noncomputable def ntext_t (_G : Nat → ASt E → Option (List (TV E))) (x0 : List UInt8) : Option (List (TV E)) :=
  some [⟨.api_Node, (⟨(1 : Int), x0, ([] : List (List UInt8)), ([] : List Node)⟩ : Node)⟩]
theorem ntext_e (G : Nat → ASt E → Option (List (TV E))) (x0 : List UInt8) : runE ntext_O ntext_H G Tryz.f62 [⟨.str, x0⟩] = ntext_t G x0 := by kernel_rfl
theorem ntext_f : Tryz.prog.funcs[62]? = some Tryz.f62 := by kernel_rfl
theorem ntext_n : (Tryz.f62.name == "runtime.NumGoroutine") = false := by kernel_rfl
theorem ntext_b : Tryz.f62.body.isNone = false := by kernel_rfl
theorem ntext_ex : ∃ fn, Tryz.prog.funcs[62]? = some fn ∧ (fn.name == "runtime.NumGoroutine") = false ∧ fn.body.isNone = false := ⟨Tryz.f62, ntext_f, ntext_n, ntext_b⟩
theorem ntext_hO : OracleOk E ntext_O := orac_ok .nil .nil .nil .nil
theorem ntext_ok_of (h : ∀ (x0 : List UInt8), ntext_t (Gr E Tryz.f62 [⟨.api_Node, txt1 x0⟩]) x0 = some [⟨.api_Node, txt1 x0⟩]) : FnOk E ntext_id ntext_W := fn1_ok ntext_hO mix ntext_f ntext_n ntext_b (fun x0 _ => (ntext_e _ x0).trans (h x0))
theorem ntext_ok : FnOk E ntext_id ntext_W := ntext_ok_of fun s => rfl
theorem idxF_lt (s : List UInt8) : ∀ (l : List (List UInt8)) (i : Nat), idxF s i l < (i : Int) + (l.length : Int)
  | [], i => by simp only [idxF, List.length_nil]; omega
  | a :: t, i => by
    unfold idxF
    split
    · simp only [List.length_cons]; omega
    · have := idxF_lt s t (i + 1)
      simp only [List.length_cons]; omega
def okWp (n : Node) (_ : List UInt8) (_ : Node) : Bool := fit ⟨3, [], n.keys, n.kids⟩
def withP (n : Node) (k : List UInt8) (v : Node) : Node := bif (bif n.kind != 3 then n.kind != 0 else false) then n else bif decide (0 ≤ index n.keys k) then ⟨3, [], n.keys, n.kids.set (index n.keys k).toNat v⟩ else ⟨3, [], n.keys ++ [k], n.kids ++ [v]⟩
noncomputable def nwith_W : FnW E := fn3 (E := E) .api_Node .str .api_Node .api_Node okWp withP
def nwith_id : FuncId := 52
noncomputable def nwith_O : Oracle E := orac [(112, nplace_W)] [(111, cloneF 25), (110, cloneF 9)] [] []
noncomputable def nwith_H : Hint E := Hint.mk [] [] [] [] []
noncomputable def nwith_t (_G : Nat → ASt E → Option (List (TV E))) (x0 : Node) (x1 : List UInt8) (x2 : Node) : Option (List (TV E)) :=
  bif (bif (x0.kind != (3 : Int)) then (x0.kind != (0 : Int)) else false) then some [⟨.api_Node, (⟨x0.kind, x0.text, x0.keys, x0.kids⟩ : Node)⟩] else (bif (decide (x0.keys.length * 16 ≤ maxBytes)) then (bif (decide (x0.kids.length * 72 ≤ maxBytes)) then (bif ((fun n _ => fit n) (⟨(3 : Int), ([] : List UInt8), x0.keys, x0.kids⟩ : Node) x1) then (bif (decide ((0 : Int) ≤ (place (⟨(3 : Int), ([] : List UInt8), x0.keys, x0.kids⟩ : Node) x1))) then (bif (decide ((0 : Int) ≤ (place (⟨(3 : Int), ([] : List UInt8), x0.keys, x0.kids⟩ : Node) x1)) && decide ((place (⟨(3 : Int), ([] : List UInt8), x0.keys, x0.kids⟩ : Node) x1) < (x0.kids.length : Nat))) then some [⟨.api_Node, (⟨(3 : Int), ([] : List UInt8), x0.keys, (List.set x0.kids (Int.toNat (place (⟨(3 : Int), ([] : List UInt8), x0.keys, x0.kids⟩ : Node) x1)) (⟨x2.kind, x2.text, x2.keys, x2.kids⟩ : Node))⟩ : Node)⟩] else none) else (bif (decide ((x0.keys.length + ([x1] : List (List UInt8)).length) * 16 ≤ maxBytes)) then (bif (decide ((x0.kids.length + ([(⟨x2.kind, x2.text, x2.keys, x2.kids⟩ : Node)] : List Node).length) * 72 ≤ maxBytes)) then some [⟨.api_Node, (⟨(3 : Int), ([] : List UInt8), (x0.keys ++ ([x1] : List (List UInt8))), (x0.kids ++ ([(⟨x2.kind, x2.text, x2.keys, x2.kids⟩ : Node)] : List Node))⟩ : Node)⟩] else none) else none)) else none) else none) else none)
theorem nwith_e (G : Nat → ASt E → Option (List (TV E))) (x0 : Node) (x1 : List UInt8) (x2 : Node) : runE nwith_O nwith_H G Tryz.f52 [⟨.api_Node, x0⟩, ⟨.str, x1⟩, ⟨.api_Node, x2⟩] = nwith_t G x0 x1 x2 := by kernel_rfl
theorem nwith_f : Tryz.prog.funcs[52]? = some Tryz.f52 := by kernel_rfl
theorem nwith_n : (Tryz.f52.name == "runtime.NumGoroutine") = false := by kernel_rfl
theorem nwith_b : Tryz.f52.body.isNone = false := by kernel_rfl
theorem nwith_ex : ∃ fn, Tryz.prog.funcs[52]? = some fn ∧ (fn.name == "runtime.NumGoroutine") = false ∧ fn.body.isNone = false := ⟨Tryz.f52, nwith_f, nwith_n, nwith_b⟩
theorem nwith_hO : OracleOk E nwith_O := orac_ok (.cons nplace_ok .nil) (.cons (clone_fresh (T := 23) (b := 4) (e := 25) (fn := Tryz.f111) (by kernel_rfl) (by kernel_rfl) (by kernel_rfl) (by kernel_rfl) (by kernel_rfl) (by kernel_rfl)) (.cons (clone_fresh (T := 22) (b := 4) (e := 9) (fn := Tryz.f110) (by kernel_rfl) (by kernel_rfl) (by kernel_rfl) (by kernel_rfl) (by kernel_rfl) (by kernel_rfl)) .nil)) .nil .nil
theorem nwith_ok_of (h : ∀ (x0 : Node) (x1 : List UInt8) (x2 : Node), okWp x0 x1 x2 = true → nwith_t (Gr E Tryz.f52 [⟨.api_Node, withP x0 x1 x2⟩]) x0 x1 x2 = some [⟨.api_Node, withP x0 x1 x2⟩]) : FnOk E nwith_id nwith_W := fn3_ok nwith_hO mix nwith_f nwith_n nwith_b (fun x0 x1 x2 hk => (nwith_e _ x0 x1 x2).trans (h x0 x1 x2 hk))
theorem nwith_ok : FnOk E nwith_id nwith_W := nwith_ok_of fun n k v hk => by
  have hk' : fit ⟨3, [], n.keys, n.kids⟩ = true := hk
  obtain ⟨⟨h1, h2⟩, h3⟩ := fit_iff.1 hk'
  have h1 : n.keys.length ≤ 1000000 := h1
  have h2 : n.kids.length ≤ 1000000 := h2
  have h3 : n.keys.length = n.kids.length := h3 rfl
  have ep : place ⟨3, [], n.keys, n.kids⟩ k = index n.keys k := if_pos rfl
  have hlt : index n.keys k < (n.keys.length : Int) := by have := idxF_lt k n.keys 0; unfold index; omega
  have b1 : decide (n.keys.length * 16 ≤ maxBytes) = true := dT (by rw [mb]; omega)
  have b2 : decide (n.kids.length * 72 ≤ maxBytes) = true := dT (by rw [mb]; omega)
  have b3 : decide ((n.keys.length + [k].length) * 16 ≤ maxBytes) = true := dT (by rw [mb, List.length_singleton]; omega)
  have b4 : decide ((n.kids.length + [v].length) * 72 ≤ maxBytes) = true := dT (by rw [mb, List.length_singleton]; omega)
  simp only [nwith_t, withP, node_eta, hk', ep, b1, b2, b3, b4, cond_true]
  cases (bif n.kind != 3 then n.kind != 0 else false) with
  | true => rfl
  | false =>
    simp only [cond_false]
    by_cases h0 : 0 ≤ index n.keys k
    · rw [dT h0, dT (show index n.keys k < (n.kids.length : Int) by omega)]; rfl
    · rw [dF h0]; rfl
end Go.Proofs.YtfoflgciceckoaaGreatDoor.Rf