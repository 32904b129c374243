/- The reference's texts (18). -/
import Derived.Test.YtfoflgciceckoaaGreatDoorN6
import Derived.Test.YtfoflgciceckoaaGreatDoorR11
namespace Go.Proofs.YtfoflgciceckoaaGreatDoor.Rf
open Go Go.RowKit Go.Sort Go.Proofs.YtfoflgciceckoaaGreatDoor.Mir
/-! ### The reference's texts, Pairs, Set (18), exactly -/
def rtxV : List Node → List (List UInt8)
  | [] => []
  | x :: t => bif x.kind != 1 then [] else x.text :: rtxV t
def rtx0 (n : Node) : Bool := bif n.kind != 2 then true else decide ((32 : Int) < (n.kids.length : Int))
def rtxL (n : Node) : List (List UInt8) := bif rtx0 n then [] else rtxV n.kids
def rtxB (n : Node) : Bool := bif rtx0 n then false else (txsV n.kids).isSome
noncomputable def q18texts_W : FnW E := fn12 (E := E) .api_Node .l_str .bool (fun _ => true) rtxL rtxB
def q18texts_id : FuncId := 88
noncomputable def q18texts_O : Oracle E := orac [] [] [] []
noncomputable def q18texts_H : Hint E := Hint.mk [(0, [1, 4, 5])] [] [] [] []
noncomputable def q18texts_C0 (v0 : Nat) (v1 v2 : Int) (v3 : List UInt8) (v4 : List (List UInt8)) (v5 : List Node) (v6 : List (List UInt8)) : ASt E := ASt.mk 42 [(1, .ptr 0 0), (4, .row .str v0 1), (5, .d (.int .i64 v1))] [(0, .box [.d (.int .i64 v2), .d (.str v3), .d (.slice .str v4), .d (.slice .api_Node v5)]), (1, .row .str v6)] 2
noncomputable def q18texts_t (G : Nat → ASt E → Option (List (TV E))) (x0 : Node) : Option (List (TV E)) :=
  bif (bif (x0.kind != (2 : Int)) then true else (decide ((32 : Int) < (x0.kids.length : Int)))) then some [⟨.l_str, ([] : List (List UInt8))⟩, ⟨.bool, false⟩] else G 0 (q18texts_C0 0 (0 : Int) x0.kind x0.text x0.keys x0.kids ([] : List (List UInt8)))
theorem q18texts_e (G : Nat → ASt E → Option (List (TV E))) (x0 : Node) : runE q18texts_O q18texts_H G Tryz.f88 [⟨.api_Node, x0⟩] = q18texts_t G x0 := by kernel_rfl
noncomputable def q18texts_t0 (G : Nat → ASt E → Option (List (TV E))) (_v0 : Nat) (v1 v2 : Int) (v3 : List UInt8) (v4 : List (List UInt8)) (v5 : List Node) (v6 : List (List UInt8)) : Option (List (TV E)) :=
  bif (decide (v1 < (v5.length : Int))) then (bif (decide ((0 : Int) ≤ v1) && decide (v1 < (v5.length : Int))) then (bif ((List.getD v5 (Int.toNat v1) (dflt .api_Node)).kind != (1 : Int)) then some [⟨.l_str, v6⟩, ⟨.bool, false⟩] else (bif (decide ((0 : Int) ≤ v1) && decide (v1 < (v5.length : Int))) then (bif (decide ((v6.length + ([(List.getD v5 (Int.toNat v1) (dflt .api_Node)).text] : List (List UInt8)).length) * 16 ≤ maxBytes)) then G 0 (q18texts_C0 (v6.length + ([(List.getD v5 (Int.toNat v1) (dflt .api_Node)).text] : List (List UInt8)).length) (w64 (v1 + (1 : Int))) v2 v3 v4 v5 (v6 ++ ([(List.getD v5 (Int.toNat v1) (dflt .api_Node)).text] : List (List UInt8)))) else none) else none)) else none) else some [⟨.l_str, v6⟩, ⟨.bool, true⟩]
theorem q18texts_l0 (G : Nat → ASt E → Option (List (TV E))) (v0 : Nat) (v1 v2 : Int) (v3 : List UInt8) (v4 : List (List UInt8)) (v5 : List Node) (v6 : List (List UInt8)) : runL q18texts_O q18texts_H G Tryz.f88 0 (q18texts_C0 v0 v1 v2 v3 v4 v5 v6) = q18texts_t0 G v0 v1 v2 v3 v4 v5 v6 := by kernel_rfl
theorem q18texts_f : Tryz.prog.funcs[88]? = some Tryz.f88 := by kernel_rfl
theorem q18texts_n : (Tryz.f88.name == "runtime.NumGoroutine") = false := by kernel_rfl
theorem q18texts_b : Tryz.f88.body.isNone = false := by kernel_rfl
theorem q18texts_ex : ∃ fn, Tryz.prog.funcs[88]? = some fn ∧ (fn.name == "runtime.NumGoroutine") = false ∧ fn.body.isNone = false := ⟨Tryz.f88, q18texts_f, q18texts_n, q18texts_b⟩
theorem q18texts_hO : OracleOk E q18texts_O := orac_ok .nil .nil .nil .nil
theorem q18texts_s0 {res : List (TV E)} {v0 : Nat} {v1 v2 : Int} {v3 : List UInt8} {v4 : List (List UInt8)} {v5 : List Node} {v6 : List (List UInt8)} (h : q18texts_t0 (Gr E Tryz.f88 res) v0 v1 v2 v3 v4 v5 v6 = some res) : Ev E Tryz.f88 res 0 (q18texts_C0 v0 v1 v2 v3 v4 v5 v6) := Ev.step q18texts_hO mix ((q18texts_l0 _ v0 v1 v2 v3 v4 v5 v6).trans h)
theorem q18texts_ok_of (h : ∀ (x0 : Node), q18texts_t (Gr E Tryz.f88 [⟨.l_str, rtxL x0⟩, ⟨.bool, rtxB x0⟩]) x0 = some [⟨.l_str, rtxL x0⟩, ⟨.bool, rtxB x0⟩]) : FnOk E q18texts_id q18texts_W := fn12_ok q18texts_hO mix q18texts_f q18texts_n q18texts_b (fun x0 _ => (q18texts_e _ x0).trans (h x0))
theorem q18texts_0 (n : Node) (h32 : n.kids.length ≤ 32) (u : Int) (t : List UInt8) (ks : List (List UInt8)) : ∀ (m i v : Nat) (out : List (List UInt8)), n.kids.length - i = m → i ≤ n.kids.length → out.length = i →
    Ev E Tryz.f88 [⟨.l_str, out ++ rtxV (n.kids.drop i)⟩, ⟨.bool, (txsV (n.kids.drop i)).isSome⟩] 0 (q18texts_C0 v i u t ks n.kids out) := by
  intro m
  induction m with
  | zero =>
    intro i v out h1 h2 h3
    refine q18texts_s0 ?_
    simp only [q18texts_t0, dge (show n.kids.length ≤ i by omega), cond_false, List.drop_eq_nil_of_le (show n.kids.length ≤ i by omega), rtxV, txsV, List.append_nil, Option.isSome_some]
  | succ m ih =>
    intro i v out h1 h2 h3
    have hi : i < n.kids.length := by omega
    have e1 : w64 ((i : Int) + 1) = ((i + 1 : Nat) : Int) := by rw [w64_id (by omega) (by omega)]; omega
    refine q18texts_s0 ?_
    rw [← List.getElem_cons_drop hi]
    simp only [q18texts_t0, dlt hi, d0, Bool.and_self, cond_true, e1, gd n.kids _ i hi, rtxV, txsV]
    simp only [dT (show (out.length + [n.kids[i].text].length) * 16 ≤ maxBytes by rw [mb, List.length_singleton]; omega), cond_true]
    cases n.kids[i].kind != 1 with
    | true => simp only [cond_true, List.append_nil]; rfl
    | false =>
      have := Gr_of (ih (i + 1) (out.length + [n.kids[i].text].length) (out ++ [n.kids[i].text]) (by omega) (by omega) (by rw [List.length_append, List.length_singleton]; omega))
      simp only [cond_false, List.append_assoc, List.singleton_append, Option.isSome_map] at this ⊢
      exact this
theorem q18texts_ok : FnOk E q18texts_id q18texts_W := q18texts_ok_of fun n => by
  simp only [q18texts_t]
  unfold rtxL rtxB
  change (bif rtx0 n then _ else _) = _
  cases h0 : rtx0 n with
  | true => rfl
  | false =>
    have h32 : n.kids.length ≤ 32 := by
      unfold rtx0 at h0
      cases hk : n.kind != 2 with
      | true => rw [hk] at h0; cases h0
      | false => rw [hk, cond_false, decide_eq_false_iff_not] at h0; omega
    have := Gr_of (q18texts_0 n h32 n.kind n.text n.keys n.kids.length 0 0 [] rfl (Nat.zero_le _) rfl)
    rw [List.drop_zero, List.nil_append] at this
    exact this
theorem txsV_len : ∀ (l : List Node) (t : List (List UInt8)), txsV l = some t → t.length ≤ l.length
  | [], t, h => by cases h; exact Nat.zero_le _
  | x :: r, t, h => by
    unfold txsV at h
    cases hb : x.kind != 1 with
    | true => rw [hb] at h; cases h
    | false =>
      rw [hb, cond_false] at h
      cases hr : txsV r with
      | none => rw [hr] at h; cases h
      | some q =>
        rw [hr] at h
        cases h
        have := txsV_len r q hr
        simp only [List.length_cons]; omega
theorem txsL_len (n : Node) : (txsL n).length ≤ n.kids.length := by
  unfold txsL
  cases h : txsV n.kids with
  | none => exact Nat.zero_le _
  | some t => exact txsV_len _ _ h
theorem rtxB_eq (n : Node) : rtxB n = txsB n := by
  unfold rtxB txsB rtx0
  cases hk : n.kind == 2 with
  | false => rw [show (n.kind != 2) = true from by rw [bne, hk]; rfl]; simp
  | true =>
    rw [show (n.kind != 2) = false from by rw [bne, hk]; rfl]
    simp only [cond_false, cond_true]
    by_cases h : (32 : Int) < (n.kids.length : Int)
    · rw [dT h, dF (by omega)]; simp
    · rw [dF h, dT (by omega)]; simp
theorem txs_rtx : ∀ (l : List Node) (t : List (List UInt8)), txsV l = some t → rtxV l = t
  | [], t, h => by cases h; rfl
  | x :: r, t, h => by
    unfold txsV at h
    unfold rtxV
    cases hb : x.kind != 1 with
    | true => rw [hb] at h; cases h
    | false =>
      rw [hb, cond_false] at h
      cases hr : txsV r with
      | none => rw [hr] at h; cases h
      | some q => rw [hr] at h; cases h; rw [txs_rtx r q hr]; rfl
theorem rtxL_eq {n : Node} (h : txsB n = true) : rtxL n = txsL n := by
  have h' := rtxB_eq n ▸ h
  unfold rtxB at h'
  unfold rtxL txsL
  cases h0 : rtx0 n with
  | true => rw [h0] at h'; cases h'
  | false =>
    rw [h0, cond_false] at h'
    cases ht : txsV n.kids with
    | none => rw [ht] at h'; cases h'
    | some t => rw [cond_false, txs_rtx _ _ ht]; rfl
end Go.Proofs.YtfoflgciceckoaaGreatDoor.Rf