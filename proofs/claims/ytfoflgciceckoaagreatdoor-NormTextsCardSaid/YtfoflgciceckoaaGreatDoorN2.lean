/- The program's nodes: Sorted. -/
import Derived.Test.YtfoflgciceckoaaGreatDoorN1
namespace Go.Proofs.YtfoflgciceckoaaGreatDoor.Rf
open Go Go.RowKit Go.Sort Go.Proofs.YtfoflgciceckoaaGreatDoor.Mir
/-! ### Package node: Sorted -/
def sortP : Nat → Node → Node
  | 0, x => x
  | n + 1, x => bif (x.kids.length : Int) == 0 then x else bif x.kind != 3 then ⟨x.kind, x.text, [], x.kids.map (sortP n)⟩ else ⟨x.kind, x.text, Pl.sortD x.keys, (Pl.sortD x.keys).map fun k => sortP n (getV x k)⟩
noncomputable def ndsorted_W (n : Nat) : FnW E := fn1 (E := E) .api_Node .api_Node (wg 10000 n) (sortP n)
def ndsorted_id : FuncId := 54
noncomputable def ndsorted_O (n : Nat) : Oracle E := orac [(113, nsorted_W), (71, nget_W), (54, ndsorted_W n)] [] [] []
noncomputable def ndsorted_H : Hint E := Hint.mk [(0, [2, 3, 24, 25, 26]), (1, [1, 2, 3, 44, 45, 46])] [] [(0, [(3, some 3, true, .api_Node)]), (1, [(3, some 3, true, .api_Node)])] [] []
noncomputable def ndsorted_C0 (v0 : List Node) (v1 v2 v3 : Int) (v4 : List UInt8) (v5 : Int) (v6 : List UInt8) (v7 : List Node) : ASt E := ASt.mk 65 [(2, .ptr 0 0), (3, .ptr 1 0), (24, .d (.slice .api_Node v0)), (25, .d (.int .i64 v1)), (26, .d (.int .i64 v2))] [(0, .box [.d (.int .i64 v3), .d (.str v4), .d (.raw (.slice none 0 0)), .d (.raw (.slice none 0 0))]), (1, .box [.d (.int .i64 v5), .d (.str v6), .d (.raw (.slice none 0 0)), .grow .api_Node v7 2]), (2, .tail true)] 3
noncomputable def ndsorted_C1 (v0 : List (List UInt8)) (v1 v2 v3 : Int) (v4 : List UInt8) (v5 : List (List UInt8)) (v6 : List Node) (v7 : Int) (v8 : List UInt8) (v9 : Int) (v10 : List UInt8) (v11 : List (List UInt8)) (v12 : List Node) : ASt E := ASt.mk 65 [(1, .ptr 0 0), (2, .ptr 1 0), (3, .ptr 2 0), (44, .d (.slice .str v0)), (45, .d (.int .i64 v1)), (46, .d (.int .i64 v2))] [(0, .box [.d (.int .i64 v3), .d (.str v4), .d (.slice .str v5), .d (.slice .api_Node v6)]), (1, .box [.d (.int .i64 v7), .d (.str v8), .d (.raw (.slice none 0 0)), .d (.raw (.slice none 0 0))]), (2, .box [.d (.int .i64 v9), .d (.str v10), .d (.slice .str v11), .grow .api_Node v12 3]), (3, .tail true)] 4
noncomputable def ndsorted_t (_n : Nat) (G : Nat → ASt E → Option (List (TV E))) (x0 : Node) : Option (List (TV E)) :=
  bif ((x0.kids.length : Int) == (0 : Int)) then some [⟨.api_Node, (⟨x0.kind, x0.text, x0.keys, x0.kids⟩ : Node)⟩] else (bif (x0.kind != (3 : Int)) then G 0 (ndsorted_C0 x0.kids (x0.kids.length : Int) (0 : Int) (0 : Int) ([] : List UInt8) x0.kind x0.text ([] : List Node)) else (bif (ln6 x0.keys) then G 1 (ndsorted_C1 (Pl.sortD x0.keys) ((Pl.sortD x0.keys).length : Int) (0 : Int) x0.kind x0.text x0.keys x0.kids (0 : Int) ([] : List UInt8) x0.kind x0.text (Pl.sortD x0.keys) ([] : List Node)) else none))
theorem ndsorted_e (n : Nat) (G : Nat → ASt E → Option (List (TV E))) (x0 : Node) : runE (ndsorted_O n) ndsorted_H G Tryz.f54 [⟨.api_Node, x0⟩] = ndsorted_t n G x0 := by kernel_rfl
noncomputable def ndsorted_t0 (n : Nat) (G : Nat → ASt E → Option (List (TV E))) (v0 : List Node) (v1 v2 v3 : Int) (v4 : List UInt8) (v5 : Int) (v6 : List UInt8) (v7 : List Node) : Option (List (TV E)) :=
  bif (decide (v2 < v1)) then (bif (decide ((0 : Int) ≤ v2) && decide (v2 < (v0.length : Int))) then (bif ((wg 10000 n) (⟨(List.getD v0 (Int.toNat v2) (dflt .api_Node)).kind, (List.getD v0 (Int.toNat v2) (dflt .api_Node)).text, (List.getD v0 (Int.toNat v2) (dflt .api_Node)).keys, (List.getD v0 (Int.toNat v2) (dflt .api_Node)).kids⟩ : Node)) then (bif (decide ((v7.length + ([((sortP n) (⟨(List.getD v0 (Int.toNat v2) (dflt .api_Node)).kind, (List.getD v0 (Int.toNat v2) (dflt .api_Node)).text, (List.getD v0 (Int.toNat v2) (dflt .api_Node)).keys, (List.getD v0 (Int.toNat v2) (dflt .api_Node)).kids⟩ : Node))] : List Node).length) * 72 ≤ maxBytes)) then G 0 (ndsorted_C0 v0 v1 (w64 (v2 + (1 : Int))) v3 v4 v5 v6 (v7 ++ ([((sortP n) (⟨(List.getD v0 (Int.toNat v2) (dflt .api_Node)).kind, (List.getD v0 (Int.toNat v2) (dflt .api_Node)).text, (List.getD v0 (Int.toNat v2) (dflt .api_Node)).keys, (List.getD v0 (Int.toNat v2) (dflt .api_Node)).kids⟩ : Node))] : List Node))) else none) else none) else none) else some [⟨.api_Node, (⟨v5, v6, ([] : List (List UInt8)), v7⟩ : Node)⟩]
theorem ndsorted_l0 (n : Nat) (G : Nat → ASt E → Option (List (TV E))) (v0 : List Node) (v1 v2 v3 : Int) (v4 : List UInt8) (v5 : Int) (v6 : List UInt8) (v7 : List Node) : runL (ndsorted_O n) ndsorted_H G Tryz.f54 0 (ndsorted_C0 v0 v1 v2 v3 v4 v5 v6 v7) = ndsorted_t0 n G v0 v1 v2 v3 v4 v5 v6 v7 := by kernel_rfl
noncomputable def ndsorted_t1 (n : Nat) (G : Nat → ASt E → Option (List (TV E))) (v0 : List (List UInt8)) (v1 v2 v3 : Int) (v4 : List UInt8) (v5 : List (List UInt8)) (v6 : List Node) (v7 : Int) (v8 : List UInt8) (v9 : Int) (v10 : List UInt8) (v11 : List (List UInt8)) (v12 : List Node) : Option (List (TV E)) :=
  bif (decide (v2 < v1)) then (bif (decide ((0 : Int) ≤ v2) && decide (v2 < (v0.length : Int))) then (bif ((fun n _ => fit n) (⟨v3, v4, v5, v6⟩ : Node) (List.getD v0 (Int.toNat v2) (dflt .str))) then (bif ((wg 10000 n) (⟨(getV (⟨v3, v4, v5, v6⟩ : Node) (List.getD v0 (Int.toNat v2) (dflt .str))).kind, (getV (⟨v3, v4, v5, v6⟩ : Node) (List.getD v0 (Int.toNat v2) (dflt .str))).text, (getV (⟨v3, v4, v5, v6⟩ : Node) (List.getD v0 (Int.toNat v2) (dflt .str))).keys, (getV (⟨v3, v4, v5, v6⟩ : Node) (List.getD v0 (Int.toNat v2) (dflt .str))).kids⟩ : Node)) then (bif (decide ((v12.length + ([((sortP n) (⟨(getV (⟨v3, v4, v5, v6⟩ : Node) (List.getD v0 (Int.toNat v2) (dflt .str))).kind, (getV (⟨v3, v4, v5, v6⟩ : Node) (List.getD v0 (Int.toNat v2) (dflt .str))).text, (getV (⟨v3, v4, v5, v6⟩ : Node) (List.getD v0 (Int.toNat v2) (dflt .str))).keys, (getV (⟨v3, v4, v5, v6⟩ : Node) (List.getD v0 (Int.toNat v2) (dflt .str))).kids⟩ : Node))] : List Node).length) * 72 ≤ maxBytes)) then G 1 (ndsorted_C1 v0 v1 (w64 (v2 + (1 : Int))) v3 v4 v5 v6 v7 v8 v9 v10 v11 (v12 ++ ([((sortP n) (⟨(getV (⟨v3, v4, v5, v6⟩ : Node) (List.getD v0 (Int.toNat v2) (dflt .str))).kind, (getV (⟨v3, v4, v5, v6⟩ : Node) (List.getD v0 (Int.toNat v2) (dflt .str))).text, (getV (⟨v3, v4, v5, v6⟩ : Node) (List.getD v0 (Int.toNat v2) (dflt .str))).keys, (getV (⟨v3, v4, v5, v6⟩ : Node) (List.getD v0 (Int.toNat v2) (dflt .str))).kids⟩ : Node))] : List Node))) else none) else none) else none) else none) else some [⟨.api_Node, (⟨v9, v10, v11, v12⟩ : Node)⟩]
theorem ndsorted_l1 (n : Nat) (G : Nat → ASt E → Option (List (TV E))) (v0 : List (List UInt8)) (v1 v2 v3 : Int) (v4 : List UInt8) (v5 : List (List UInt8)) (v6 : List Node) (v7 : Int) (v8 : List UInt8) (v9 : Int) (v10 : List UInt8) (v11 : List (List UInt8)) (v12 : List Node) : runL (ndsorted_O n) ndsorted_H G Tryz.f54 1 (ndsorted_C1 v0 v1 v2 v3 v4 v5 v6 v7 v8 v9 v10 v11 v12) = ndsorted_t1 n G v0 v1 v2 v3 v4 v5 v6 v7 v8 v9 v10 v11 v12 := by kernel_rfl
theorem ndsorted_f : Tryz.prog.funcs[54]? = some Tryz.f54 := by kernel_rfl
theorem ndsorted_n : (Tryz.f54.name == "runtime.NumGoroutine") = false := by kernel_rfl
theorem ndsorted_b : Tryz.f54.body.isNone = false := by kernel_rfl
theorem ndsorted_ex : ∃ fn, Tryz.prog.funcs[54]? = some fn ∧ (fn.name == "runtime.NumGoroutine") = false ∧ fn.body.isNone = false := ⟨Tryz.f54, ndsorted_f, ndsorted_n, ndsorted_b⟩
theorem ndsorted_hO (n : Nat) (ih : FnOk E ndsorted_id (ndsorted_W n)) : OracleOk E (ndsorted_O n) := orac_ok (.cons nsorted_ok (.cons nget_ok (.cons ih .nil))) .nil .nil .nil
theorem ndsorted_s0 (n : Nat) (ih : FnOk E ndsorted_id (ndsorted_W n)) {res : List (TV E)} {v0 : List Node} {v1 v2 v3 : Int} {v4 : List UInt8} {v5 : Int} {v6 : List UInt8} {v7 : List Node} (h : ndsorted_t0 n (Gr E Tryz.f54 res) v0 v1 v2 v3 v4 v5 v6 v7 = some res) : Ev E Tryz.f54 res 0 (ndsorted_C0 v0 v1 v2 v3 v4 v5 v6 v7) := Ev.step (ndsorted_hO n ih) mix ((ndsorted_l0 n _ v0 v1 v2 v3 v4 v5 v6 v7).trans h)
theorem ndsorted_s1 (n : Nat) (ih : FnOk E ndsorted_id (ndsorted_W n)) {res : List (TV E)} {v0 : List (List UInt8)} {v1 v2 v3 : Int} {v4 : List UInt8} {v5 : List (List UInt8)} {v6 : List Node} {v7 : Int} {v8 : List UInt8} {v9 : Int} {v10 : List UInt8} {v11 : List (List UInt8)} {v12 : List Node} (h : ndsorted_t1 n (Gr E Tryz.f54 res) v0 v1 v2 v3 v4 v5 v6 v7 v8 v9 v10 v11 v12 = some res) : Ev E Tryz.f54 res 1 (ndsorted_C1 v0 v1 v2 v3 v4 v5 v6 v7 v8 v9 v10 v11 v12) := Ev.step (ndsorted_hO n ih) mix ((ndsorted_l1 n _ v0 v1 v2 v3 v4 v5 v6 v7 v8 v9 v10 v11 v12).trans h)
theorem ndsorted_ok_of (n : Nat) (ih : FnOk E ndsorted_id (ndsorted_W n)) (h : ∀ (x0 : Node), (wg 10000 (n + 1)) x0 = true → ndsorted_t n (Gr E Tryz.f54 [⟨.api_Node, (sortP (n + 1)) x0⟩]) x0 = some [⟨.api_Node, (sortP (n + 1)) x0⟩]) : FnOk E ndsorted_id (ndsorted_W (n + 1)) := fn1_ok (ndsorted_hO n ih) mix ndsorted_f ndsorted_n ndsorted_b (fun x0 hk => (ndsorted_e n _ x0).trans (h x0 hk))
theorem ndsorted_1 (n : Nat) (ih : FnOk E ndsorted_id (ndsorted_W n)) (x : Node) (hx : wg 10000 (n + 1) x = true) (h3 : x.kind = 3) (ks : List (List UInt8)) (hks : ks.length ≤ 10000) (hm : ∀ k ∈ ks, k ∈ x.keys) (u0 : Int) (u1 : List UInt8) (v0 : Int) (v1 : List UInt8) (v2 : List (List UInt8)) :
    ∀ (m i : Nat) (ov : List Node), ks.length - i = m → i ≤ ks.length → ov.length = i →
      Ev E Tryz.f54 [⟨.api_Node, (⟨v0, v1, v2, ov ++ (ks.drop i).map fun k => sortP n (getV x k)⟩ : Node)⟩] 1 (ndsorted_C1 ks ks.length i x.kind x.text x.keys x.kids u0 u1 v0 v1 v2 ov) := by
  have fx := wg_fit hx (by decide)
  intro m
  induction m with
  | zero =>
    intro i ov h1 h2 h4
    refine ndsorted_s1 n ih ?_
    simp only [ndsorted_t1, dge (show ks.length ≤ i by omega), cond_false, List.drop_eq_nil_of_le (show ks.length ≤ i by omega), List.append_nil, List.map_nil]
  | succ m ih2 =>
    intro i ov h1 h2 h4
    have hi : i < ks.length := by omega
    have e2 : ∀ v : Node, decide ((ov.length + [v].length) * 72 ≤ maxBytes) = true := fun v => dT (by rw [mb, List.length_singleton]; omega)
    have e3 : w64 ((i : Int) + 1) = ((i + 1 : Nat) : Int) := by rw [w64_id (by omega) (by omega)]; omega
    have hw : wg 10000 n (getV x ks[i]) = true := wg_get hx (getB_g hx h3 (hm _ (List.getElem_mem hi)))
    refine ndsorted_s1 n ih ?_
    simp only [ndsorted_t1, dlt hi, d0, gd ks _ i hi, Bool.and_self, cond_true, node_eta, fx, hw, e2, e3]
    have := Gr_of (ih2 (i + 1) (ov ++ [sortP n (getV x ks[i])]) (by omega) (by omega) (by simp [h4]))
    rw [← List.getElem_cons_drop hi, List.map_cons]
    rw [List.append_assoc] at this
    exact this
theorem ndsorted_0 (n : Nat) (ih : FnOk E ndsorted_id (ndsorted_W n)) (l : List Node) (hl : l.length ≤ 10000) (hw : ∀ y ∈ l, wg 10000 n y = true) (u0 : Int) (u1 : List UInt8) (v0 : Int) (v1 : List UInt8) :
    ∀ (m i : Nat) (ov : List Node), l.length - i = m → i ≤ l.length → ov.length = i →
      Ev E Tryz.f54 [⟨.api_Node, (⟨v0, v1, [], ov ++ (l.drop i).map (sortP n)⟩ : Node)⟩] 0 (ndsorted_C0 l l.length i u0 u1 v0 v1 ov) := by
  intro m
  induction m with
  | zero =>
    intro i ov h1 h2 h4
    refine ndsorted_s0 n ih ?_
    simp only [ndsorted_t0, dge (show l.length ≤ i by omega), cond_false, List.drop_eq_nil_of_le (show l.length ≤ i by omega), List.append_nil, List.map_nil]
  | succ m ih2 =>
    intro i ov h1 h2 h4
    have hi : i < l.length := by omega
    have e2 : ∀ v : Node, decide ((ov.length + [v].length) * 72 ≤ maxBytes) = true := fun v => dT (by rw [mb, List.length_singleton]; omega)
    have e3 : w64 ((i : Int) + 1) = ((i + 1 : Nat) : Int) := by rw [w64_id (by omega) (by omega)]; omega
    refine ndsorted_s0 n ih ?_
    simp only [ndsorted_t0, dlt hi, d0, gd l _ i hi, Bool.and_self, cond_true, node_eta, hw _ (List.getElem_mem hi), e2, e3]
    have := Gr_of (ih2 (i + 1) (ov ++ [sortP n l[i]]) (by omega) (by omega) (by simp [h4]))
    rw [← List.getElem_cons_drop hi, List.map_cons]
    rw [List.append_assoc] at this
    exact this
theorem ndsorted_ok (n : Nat) : FnOk E ndsorted_id (ndsorted_W n) := by
  induction n with
  | zero => exact fn1_bot ndsorted_ex fun x => rfl
  | succ n ih =>
    refine ndsorted_ok_of n ih fun x hk => ?_
    have hw := wg_iff.1 hk
    have h6 : ln6 x.keys = true := ln6_iff.2 (by omega)
    simp only [ndsorted_t, sortP, node_eta, h6, cond_true]
    by_cases h0 : (x.kids.length : Int) = 0
    · rw [eqT h0]; rfl
    · rw [eqF h0, cond_false, cond_false]
      by_cases h3 : x.kind = 3
      · rw [neF h3, cond_false, cond_false]
        have hs := Pl.sortD_len x.keys
        have := Gr_of (ndsorted_1 n ih x hk h3 (Pl.sortD x.keys) (by omega) (fun k hk => Pl.sortD_mem.1 hk) 0 [] x.kind x.text (Pl.sortD x.keys) _ 0 [] rfl (Nat.zero_le _) rfl)
        rw [List.drop_zero] at this
        exact this
      · rw [neT h3, cond_true, cond_true]
        have := Gr_of (ndsorted_0 n ih x.kids hw.2.1 hw.2.2.2 0 [] x.kind x.text _ 0 [] rfl (Nat.zero_le _) rfl)
        rw [List.drop_zero] at this
        exact this
end Go.Proofs.YtfoflgciceckoaaGreatDoor.Rf