/- The program's forms of fields: texts. -/
import Derived.Test.YtfoflgciceckoaaGreatDoorN2
namespace Go.Proofs.YtfoflgciceckoaaGreatDoor.Rf
open Go Go.RowKit Go.Sort Go.Proofs.YtfoflgciceckoaaGreatDoor.Mir
/-! ### Package norm: texts -/
def txsV : List Node → Option (List (List UInt8))
  | [] => some []
  | x :: t => bif x.kind != 1 then none else (txsV t).map (x.text :: ·)
def okTx (n : Node) : Bool := decide (n.kids.length ≤ 1000000)
def txsL (n : Node) : List (List UInt8) := (txsV n.kids).getD []
def txsB (n : Node) : Bool := (txsV n.kids).isSome && (bif n.kind == 2 then decide ((n.kids.length : Int) ≤ 32) else false)
noncomputable def ntexts_W : FnW E := fn12 (E := E) .api_Node .l_str .bool okTx txsL txsB
def ntexts_id : FuncId := 66
noncomputable def ntexts_O : Oracle E := withI (orac [] [] [] []) [(14, Tryz.f14)]
noncomputable def ntexts_H : Hint E := Hint.mk [(0, [1, 4, 8, 9, 10])] [] [(0, [(4, none, true, .str)])] [] []
noncomputable def ntexts_C0 (v0 : List (List UInt8)) (v1 : List Node) (v2 v3 v4 : Int) (v5 : List UInt8) (v6 : List (List UInt8)) (v7 : List Node) : ASt E := ASt.mk 26 [(1, .ptr 0 0), (4, .grow .str v0 1), (8, .d (.slice .api_Node v1)), (9, .d (.int .i64 v2)), (10, .d (.int .i64 v3))] [(0, .box [.d (.int .i64 v4), .d (.str v5), .d (.slice .str v6), .d (.slice .api_Node v7)]), (1, .tail true)] 2
noncomputable def ntexts_t (G : Nat → ASt E → Option (List (TV E))) (x0 : Node) : Option (List (TV E)) :=
  G 0 (ntexts_C0 ([] : List (List UInt8)) x0.kids (x0.kids.length : Int) (0 : Int) x0.kind x0.text x0.keys x0.kids)
theorem ntexts_e (G : Nat → ASt E → Option (List (TV E))) (x0 : Node) : runE ntexts_O ntexts_H G Tryz.f66 [⟨.api_Node, x0⟩] = ntexts_t G x0 := by kernel_rfl
noncomputable def ntexts_t0 (G : Nat → ASt E → Option (List (TV E))) (v0 : List (List UInt8)) (v1 : List Node) (v2 v3 v4 : Int) (v5 : List UInt8) (v6 : List (List UInt8)) (v7 : List Node) : Option (List (TV E)) :=
  bif (decide (v3 < v2)) then (bif (decide ((0 : Int) ≤ v3) && decide (v3 < (v1.length : Int))) then (bif ((List.getD v1 (Int.toNat v3) (dflt .api_Node)).kind != (1 : Int)) then some [⟨.l_str, ([] : List (List UInt8))⟩, ⟨.bool, false⟩] else (bif (decide ((v0.length + ([(List.getD v1 (Int.toNat v3) (dflt .api_Node)).text] : List (List UInt8)).length) * 16 ≤ maxBytes)) then G 0 (ntexts_C0 (v0 ++ ([(List.getD v1 (Int.toNat v3) (dflt .api_Node)).text] : List (List UInt8))) v1 v2 (w64 (v3 + (1 : Int))) v4 v5 v6 v7) else none)) else none) else some [⟨.l_str, v0⟩, ⟨.bool, (bif (v4 == (2 : Int)) then (decide ((v7.length : Int) ≤ (32 : Int))) else false)⟩]
theorem ntexts_l0 (G : Nat → ASt E → Option (List (TV E))) (v0 : List (List UInt8)) (v1 : List Node) (v2 v3 v4 : Int) (v5 : List UInt8) (v6 : List (List UInt8)) (v7 : List Node) : runL ntexts_O ntexts_H G Tryz.f66 0 (ntexts_C0 v0 v1 v2 v3 v4 v5 v6 v7) = ntexts_t0 G v0 v1 v2 v3 v4 v5 v6 v7 := by kernel_rfl
theorem ntexts_f : Tryz.prog.funcs[66]? = some Tryz.f66 := by kernel_rfl
theorem ntexts_n : (Tryz.f66.name == "runtime.NumGoroutine") = false := by kernel_rfl
theorem ntexts_b : Tryz.f66.body.isNone = false := by kernel_rfl
theorem ntexts_ex : ∃ fn, Tryz.prog.funcs[66]? = some fn ∧ (fn.name == "runtime.NumGoroutine") = false ∧ fn.body.isNone = false := ⟨Tryz.f66, ntexts_f, ntexts_n, ntexts_b⟩
theorem ntexts_hO : OracleOk E ntexts_O := withI_ok (orac_ok .nil .nil .nil .nil) mix (.cons (f := 14) (fn := Tryz.f14) (by kernel_rfl) (by kernel_rfl) (by kernel_rfl) .nil)
theorem ntexts_s0 {res : List (TV E)} {v0 : List (List UInt8)} {v1 : List Node} {v2 v3 v4 : Int} {v5 : List UInt8} {v6 : List (List UInt8)} {v7 : List Node} (h : ntexts_t0 (Gr E Tryz.f66 res) v0 v1 v2 v3 v4 v5 v6 v7 = some res) : Ev E Tryz.f66 res 0 (ntexts_C0 v0 v1 v2 v3 v4 v5 v6 v7) := Ev.step ntexts_hO mix ((ntexts_l0 _ v0 v1 v2 v3 v4 v5 v6 v7).trans h)
theorem ntexts_ok_of (h : ∀ (x0 : Node), okTx x0 = true → ntexts_t (Gr E Tryz.f66 [⟨.l_str, txsL x0⟩, ⟨.bool, txsB x0⟩]) x0 = some [⟨.l_str, txsL x0⟩, ⟨.bool, txsB x0⟩]) : FnOk E ntexts_id ntexts_W := fn12_ok ntexts_hO mix ntexts_f ntexts_n ntexts_b (fun x0 hk => (ntexts_e _ x0).trans (h x0 hk))
theorem ntexts_0 (n : Node) (hb : n.kids.length ≤ 1000000) : ∀ (m i : Nat) (acc : List (List UInt8)), n.kids.length - i = m → i ≤ n.kids.length → acc.length = i →
    Ev E Tryz.f66 [⟨.l_str, ((txsV (n.kids.drop i)).map (acc ++ ·)).getD []⟩, ⟨.bool, (txsV (n.kids.drop i)).isSome && (bif n.kind == 2 then decide ((n.kids.length : Int) ≤ 32) else false)⟩] 0 (ntexts_C0 acc n.kids n.kids.length i n.kind n.text n.keys n.kids) := by
  intro m
  induction m with
  | zero =>
    intro i acc h1 h2 h3
    refine ntexts_s0 ?_
    simp only [ntexts_t0, dge (show n.kids.length ≤ i by omega), cond_false, List.drop_eq_nil_of_le (show n.kids.length ≤ i by omega), txsV, Option.map_some, Option.getD_some, List.append_nil, Option.isSome_some, Bool.true_and]
  | succ m ih =>
    intro i acc h1 h2 h3
    have hi : i < n.kids.length := by omega
    have e3 : w64 ((i : Int) + 1) = ((i + 1 : Nat) : Int) := by rw [w64_id (by omega) (by omega)]; omega
    have e1 : decide ((acc.length + [n.kids[i].text].length) * 16 ≤ maxBytes) = true := dT (by rw [mb, List.length_singleton]; omega)
    refine ntexts_s0 ?_
    rw [← List.getElem_cons_drop hi]
    simp only [ntexts_t0, dlt hi, d0, gd n.kids _ i hi, Bool.and_self, cond_true, e3, e1, txsV]
    cases n.kids[i].kind != 1 with
    | true => rfl
    | false =>
      simp only [cond_false]
      have := Gr_of (ih (i + 1) (acc ++ [n.kids[i].text]) (by omega) (by omega) (by simp [h3]))
      cases ht : txsV (n.kids.drop (i + 1)) with
      | none => rw [ht] at this; exact this
      | some l =>
        rw [ht] at this
        simp only [Option.map_some, Option.getD_some, Option.isSome_some, List.append_assoc, List.singleton_append] at this ⊢
        exact this
theorem ntexts_ok : FnOk E ntexts_id ntexts_W := ntexts_ok_of fun n hk => by
  have hb : n.kids.length ≤ 1000000 := by simpa [okTx] using hk
  have := Gr_of (ntexts_0 n hb n.kids.length 0 [] (by omega) (Nat.zero_le _) rfl)
  simp only [ntexts_t, txsL, txsB]
  rw [List.drop_zero] at this
  have e : ((txsV n.kids).map (([] : List (List UInt8)) ++ ·)).getD [] = (txsV n.kids).getD [] := by cases txsV n.kids <;> rfl
  rw [e] at this
  exact this
end Go.Proofs.YtfoflgciceckoaaGreatDoor.Rf