/- Files laid over each other: plain facts, the program's Changed, and what the law's functions compute. -/
import Derived.Test.YtoelhlikomifjaaGreatR17
namespace Go.Proofs.YtoelhlikomifjaaGreat.Rf
open Go Go.RowKit Go.Sort Go.Proofs.YtoelhlikomifjaaGreat.Mir
/-! ### Where two nodes differ -/
theorem mut3_bot {P : Program} {E : Env P} {f : FuncId} {a b c d : E.Ty} {back : Bool} {ok : List (E.Den a) → E.Den b → E.Den c → E.Den d → Bool} {F : List (E.Den a) → E.Den b → E.Den c → E.Den d → List (E.Den a)} (ex : ∃ fn, P.funcs[f]? = some fn ∧ (fn.name == "runtime.NumGoroutine") = false ∧ fn.body.isNone = false) (h : ∀ x y z u, ok x y z u = false) : MutOk E f (mut3 a b c d back ok F) :=
  ⟨ex, fun t l rest bk l' hr => by
    unfold mut3 at hr
    split at hr
    · split at hr
      · split at hr
        · rw [h] at hr
          cases hr
        · cases hr
      · cases hr
    · cases hr⟩
theorem msB : maxStr = 4611686018427387904 := rfl
def stepC (f : List UInt8 → Node → Node → List (List UInt8)) (p : List UInt8) (a b : Node) (k : List UInt8) : List (List UInt8) := bif getB a k == getB b k then f (p ++ k) (getV a k) (getV b k) else [p ++ k]
def pre (p : List UInt8) : List UInt8 := bif p == [] then [] else p ++ [10]
def chgL : Nat → List UInt8 → Node → Node → List (List UInt8)
  | 0, _, _, _ => []
  | n + 1, p, a, b => bif pairsV a b then (both a.keys b.keys).flatMap (stepC (chgL n) (pre p) a b) else bif same 12 a b then [] else [p]
def chgV (n : Nat) (out : List (List UInt8)) (p : List UInt8) (a b : Node) : List (List UInt8) := out ++ chgL n p a b
def okC (n : Nat) (out : List (List UInt8)) (p : List UInt8) (a b : Node) : Bool := decide (n ≤ 12) && wf 200 n a && wf 200 n b && decide (p.length ≤ 201 * (13 - n)) && decide ((out ++ chgL n p a b).length ≤ 1000000)
theorem okC_iff {n : Nat} {out : List (List UInt8)} {p : List UInt8} {a b : Node} : okC n out p a b = true ↔ (((n ≤ 12 ∧ wf 200 n a = true) ∧ wf 200 n b = true) ∧ p.length ≤ 201 * (13 - n)) ∧ (out ++ chgL n p a b).length ≤ 1000000 := by simp [okC]
theorem pre_len (p : List UInt8) : (pre p).length ≤ p.length + 1 := by
  unfold pre
  cases p == [] <;> simp
theorem mem_both {a b : List (List UInt8)} {k : List UInt8} (h : k ∈ both a b) : k ∈ a ∨ k ∈ b := by
  have h : k ∈ Pl.sortD (a ++ b) := h
  exact List.mem_append.1 (Pl.sortD_mem.1 h)
noncomputable def chg_M (n : Nat) : FnM E := mut3 (E := E) .str .str .api_Node .api_Node true (okC n) (chgV n)
def chg_mid : FuncId := 25
theorem chg_mex : ∃ fn, Tryz.prog.funcs[chg_mid]? = some fn ∧ (fn.name == "runtime.NumGoroutine") = false ∧ fn.body.isNone = false := ⟨Tryz.f25, by kernel_rfl, by kernel_rfl, by kernel_rfl⟩
noncomputable def chg_O (n : Nat) : Oracle E := orac [(21, pairs_W), (22, nboth_W), (23, nget_W), (35, nsame_W 12)] [] [(25, chg_M n)] []
noncomputable def chg_H : Hint E := Hint.mk [(0, [0, 1, 6, 7, 36, 37, 38])] [] [] [] []
noncomputable def chg_C0 (v0 : Nat) (v1 : List UInt8) (v2 : List (List UInt8)) (v3 : Int) (v4 : Int) (v5 : List (List UInt8)) (v6 : Int) (v7 : List UInt8) (v8 : List (List UInt8)) (v9 : List Node) (v10 : Int) (v11 : List UInt8) (v12 : List (List UInt8)) (v13 : List Node) : ASt E := ASt.mk 72 [(0, .row .str v0 0), (1, .d (.str v1)), (6, .ptr 1 0), (7, .ptr 2 0), (36, .d (.slice .str v2)), (37, .d (.int .i64 v3)), (38, .d (.int .i64 v4))] [(0, .row .str v5), (1, .box [.d (.int .i64 v6), .d (.str v7), .d (.slice .str v8), .d (.slice .api_Node v9)]), (2, .box [.d (.int .i64 v10), .d (.str v11), .d (.slice .str v12), .d (.slice .api_Node v13)])] 3
noncomputable def chg_t (_n : Nat) (G : Nat → ASt E → Option (TL E)) (x0 : List (List UInt8)) (x1 : List UInt8) (x2 : Node) (x3 : Node) : Option (TL E) :=
  bif (!(pairsV (⟨x2.kind, x2.text, x2.keys, x2.kids⟩ : Node) (⟨x3.kind, x3.text, x3.keys, x3.kids⟩ : Node))) then (bif ((okS 12) (⟨x2.kind, x2.text, x2.keys, x2.kids⟩ : Node) (⟨x3.kind, x3.text, x3.keys, x3.kids⟩ : Node)) then (bif (!((same 12) (⟨x2.kind, x2.text, x2.keys, x2.kids⟩ : Node) (⟨x3.kind, x3.text, x3.keys, x3.kids⟩ : Node))) then (bif (decide ((x0.length + ([x1] : List (List UInt8)).length) * 16 ≤ maxBytes)) then some ⟨.str, (x0 ++ ([x1] : List (List UInt8)))⟩ else none) else some ⟨.str, x0⟩) else none) else (bif (!(x1 == ([] : List UInt8))) then (bif (decide (x1.length + ([10] : List UInt8).length ≤ maxStr)) then (bif (ln5 x2.keys x3.keys) then G 0 (chg_C0 x0.length (x1 ++ ([10] : List UInt8)) (both x2.keys x3.keys) ((both x2.keys x3.keys).length : Int) (0 : Int) x0 x2.kind x2.text x2.keys x2.kids x3.kind x3.text x3.keys x3.kids) else none) else none) else (bif (ln5 x2.keys x3.keys) then G 0 (chg_C0 x0.length x1 (both x2.keys x3.keys) ((both x2.keys x3.keys).length : Int) (0 : Int) x0 x2.kind x2.text x2.keys x2.kids x3.kind x3.text x3.keys x3.kids) else none))
theorem chg_e (n : Nat) (G : Nat → ASt E → Option (TL E)) (x0 : List (List UInt8)) (x1 : List UInt8) (x2 : Node) (x3 : Node) : runEM (chg_O n) chg_H G Tryz.f25 .str x0 [⟨.str, x1⟩, ⟨.api_Node, x2⟩, ⟨.api_Node, x3⟩] = chg_t n G x0 x1 x2 x3 := by kernel_rfl
noncomputable def chg_t0 (n : Nat) (G : Nat → ASt E → Option (TL E)) (_v0 : Nat) (v1 : List UInt8) (v2 : List (List UInt8)) (v3 : Int) (v4 : Int) (v5 : List (List UInt8)) (v6 : Int) (v7 : List UInt8) (v8 : List (List UInt8)) (v9 : List Node) (v10 : Int) (v11 : List UInt8) (v12 : List (List UInt8)) (v13 : List Node) : Option (TL E) :=
  bif (decide (v4 < v3)) then (bif (decide ((0 : Int) ≤ v4) && decide (v4 < (v2.length : Int))) then (bif ((fun n _ => fit n) (⟨v6, v7, v8, v9⟩ : Node) (List.getD v2 (Int.toNat v4) (dflt .str))) then (bif ((fun n _ => fit n) (⟨v10, v11, v12, v13⟩ : Node) (List.getD v2 (Int.toNat v4) (dflt .str))) then (bif (!((getB (⟨v6, v7, v8, v9⟩ : Node) (List.getD v2 (Int.toNat v4) (dflt .str))) == (getB (⟨v10, v11, v12, v13⟩ : Node) (List.getD v2 (Int.toNat v4) (dflt .str))))) then (bif (decide (v1.length + (List.getD v2 (Int.toNat v4) (dflt .str)).length ≤ maxStr)) then (bif (decide ((v5.length + ([(v1 ++ (List.getD v2 (Int.toNat v4) (dflt .str)))] : List (List UInt8)).length) * 16 ≤ maxBytes)) then G 0 (chg_C0 (v5.length + ([(v1 ++ (List.getD v2 (Int.toNat v4) (dflt .str)))] : List (List UInt8)).length) v1 v2 v3 (w64 (v4 + (1 : Int))) (v5 ++ ([(v1 ++ (List.getD v2 (Int.toNat v4) (dflt .str)))] : List (List UInt8))) v6 v7 v8 v9 v10 v11 v12 v13) else none) else none) else (bif (decide (v1.length + (List.getD v2 (Int.toNat v4) (dflt .str)).length ≤ maxStr)) then (bif ((okC n) v5 (v1 ++ (List.getD v2 (Int.toNat v4) (dflt .str))) (⟨(getV (⟨v6, v7, v8, v9⟩ : Node) (List.getD v2 (Int.toNat v4) (dflt .str))).kind, (getV (⟨v6, v7, v8, v9⟩ : Node) (List.getD v2 (Int.toNat v4) (dflt .str))).text, (getV (⟨v6, v7, v8, v9⟩ : Node) (List.getD v2 (Int.toNat v4) (dflt .str))).keys, (getV (⟨v6, v7, v8, v9⟩ : Node) (List.getD v2 (Int.toNat v4) (dflt .str))).kids⟩ : Node) (⟨(getV (⟨v10, v11, v12, v13⟩ : Node) (List.getD v2 (Int.toNat v4) (dflt .str))).kind, (getV (⟨v10, v11, v12, v13⟩ : Node) (List.getD v2 (Int.toNat v4) (dflt .str))).text, (getV (⟨v10, v11, v12, v13⟩ : Node) (List.getD v2 (Int.toNat v4) (dflt .str))).keys, (getV (⟨v10, v11, v12, v13⟩ : Node) (List.getD v2 (Int.toNat v4) (dflt .str))).kids⟩ : Node)) then G 0 (chg_C0 (((chgV n) v5 (v1 ++ (List.getD v2 (Int.toNat v4) (dflt .str))) (⟨(getV (⟨v6, v7, v8, v9⟩ : Node) (List.getD v2 (Int.toNat v4) (dflt .str))).kind, (getV (⟨v6, v7, v8, v9⟩ : Node) (List.getD v2 (Int.toNat v4) (dflt .str))).text, (getV (⟨v6, v7, v8, v9⟩ : Node) (List.getD v2 (Int.toNat v4) (dflt .str))).keys, (getV (⟨v6, v7, v8, v9⟩ : Node) (List.getD v2 (Int.toNat v4) (dflt .str))).kids⟩ : Node) (⟨(getV (⟨v10, v11, v12, v13⟩ : Node) (List.getD v2 (Int.toNat v4) (dflt .str))).kind, (getV (⟨v10, v11, v12, v13⟩ : Node) (List.getD v2 (Int.toNat v4) (dflt .str))).text, (getV (⟨v10, v11, v12, v13⟩ : Node) (List.getD v2 (Int.toNat v4) (dflt .str))).keys, (getV (⟨v10, v11, v12, v13⟩ : Node) (List.getD v2 (Int.toNat v4) (dflt .str))).kids⟩ : Node)).length) v1 v2 v3 (w64 (v4 + (1 : Int))) ((chgV n) v5 (v1 ++ (List.getD v2 (Int.toNat v4) (dflt .str))) (⟨(getV (⟨v6, v7, v8, v9⟩ : Node) (List.getD v2 (Int.toNat v4) (dflt .str))).kind, (getV (⟨v6, v7, v8, v9⟩ : Node) (List.getD v2 (Int.toNat v4) (dflt .str))).text, (getV (⟨v6, v7, v8, v9⟩ : Node) (List.getD v2 (Int.toNat v4) (dflt .str))).keys, (getV (⟨v6, v7, v8, v9⟩ : Node) (List.getD v2 (Int.toNat v4) (dflt .str))).kids⟩ : Node) (⟨(getV (⟨v10, v11, v12, v13⟩ : Node) (List.getD v2 (Int.toNat v4) (dflt .str))).kind, (getV (⟨v10, v11, v12, v13⟩ : Node) (List.getD v2 (Int.toNat v4) (dflt .str))).text, (getV (⟨v10, v11, v12, v13⟩ : Node) (List.getD v2 (Int.toNat v4) (dflt .str))).keys, (getV (⟨v10, v11, v12, v13⟩ : Node) (List.getD v2 (Int.toNat v4) (dflt .str))).kids⟩ : Node)) v6 v7 v8 v9 v10 v11 v12 v13) else none) else none)) else none) else none) else none) else some ⟨.str, v5⟩
theorem chg_l0 (n : Nat) (G : Nat → ASt E → Option (TL E)) (v0 : Nat) (v1 : List UInt8) (v2 : List (List UInt8)) (v3 : Int) (v4 : Int) (v5 : List (List UInt8)) (v6 : Int) (v7 : List UInt8) (v8 : List (List UInt8)) (v9 : List Node) (v10 : Int) (v11 : List UInt8) (v12 : List (List UInt8)) (v13 : List Node) : runLM (chg_O n) chg_H G Tryz.f25 0 (chg_C0 v0 v1 v2 v3 v4 v5 v6 v7 v8 v9 v10 v11 v12 v13) = chg_t0 n G v0 v1 v2 v3 v4 v5 v6 v7 v8 v9 v10 v11 v12 v13 := by kernel_rfl
theorem chg_f : Tryz.prog.funcs[25]? = some Tryz.f25 := by kernel_rfl
theorem chg_n : (Tryz.f25.name == "runtime.NumGoroutine") = false := by kernel_rfl
theorem chg_b : Tryz.f25.body.isNone = false := by kernel_rfl
theorem chg_ex : ∃ fn, Tryz.prog.funcs[25]? = some fn ∧ (fn.name == "runtime.NumGoroutine") = false ∧ fn.body.isNone = false := ⟨Tryz.f25, chg_f, chg_n, chg_b⟩
theorem chg_hO (n : Nat) (ih : MutOk E chg_mid (chg_M n)) : OracleOk E (chg_O n) := orac_ok (.cons pairs_ok (.cons nboth_ok (.cons nget_ok (.cons (nsame_ok 12) .nil)))) .nil (.cons ih .nil) .nil
theorem chg_s0 (n : Nat) (ih : MutOk E chg_mid (chg_M n)) {res : TL E} {v0 : Nat} {v1 : List UInt8} {v2 : List (List UInt8)} {v3 : Int} {v4 : Int} {v5 : List (List UInt8)} {v6 : Int} {v7 : List UInt8} {v8 : List (List UInt8)} {v9 : List Node} {v10 : Int} {v11 : List UInt8} {v12 : List (List UInt8)} {v13 : List Node} (h : chg_t0 n (GrM E Tryz.f25 res) v0 v1 v2 v3 v4 v5 v6 v7 v8 v9 v10 v11 v12 v13 = some res) : EvM E Tryz.f25 res 0 (chg_C0 v0 v1 v2 v3 v4 v5 v6 v7 v8 v9 v10 v11 v12 v13) := EvM.step (chg_hO n ih) mix ((chg_l0 n _ v0 v1 v2 v3 v4 v5 v6 v7 v8 v9 v10 v11 v12 v13).trans h)
theorem chg_mok_of (n : Nat) (ih : MutOk E chg_mid (chg_M n)) (h : ∀ (x0 : List (List UInt8)) (x1 : List UInt8) (x2 : Node) (x3 : Node), (okC (n + 1)) x0 x1 x2 x3 = true → chg_t n (GrM E Tryz.f25 ⟨.str, (chgV (n + 1)) x0 x1 x2 x3⟩) x0 x1 x2 x3 = some ⟨.str, (chgV (n + 1)) x0 x1 x2 x3⟩) : MutOk E chg_mid (chg_M (n + 1)) := mut3_ok (chg_hO n ih) mix chg_f chg_n chg_b (fun x0 x1 x2 x3 hk => (chg_e n _ x0 x1 x2 x3).trans (h x0 x1 x2 x3 hk))
theorem chg_loop (n : Nat) (ih : MutOk E chg_mid (chg_M n)) (hn : n + 1 ≤ 12) (a b : Node) (ha : wf 200 (n + 1) a = true) (hb : wf 200 (n + 1) b = true) (p : List UInt8) (hp : p.length ≤ 201 * (12 - n) + 1) (ks : List (List UInt8)) (hks : ks.length ≤ 400)
    (hm : ∀ k ∈ ks, k.length ≤ 200 ∧ (getB a k = true ∨ getB b k = true)) : ∀ (m i v0 : Nat) (out : List (List UInt8)), ks.length - i = m → i ≤ ks.length → (out ++ (ks.drop i).flatMap (stepC (chgL n) p a b)).length ≤ 1000000 →
      EvM E Tryz.f25 ⟨.str, out ++ (ks.drop i).flatMap (stepC (chgL n) p a b)⟩ 0 (chg_C0 v0 p ks ks.length i out a.kind a.text a.keys a.kids b.kind b.text b.keys b.kids) := by
  have fa := wf_fit ha (by decide)
  have fb := wf_fit hb (by decide)
  intro m
  induction m with
  | zero =>
    intro i v0 out h1 h2 h3
    refine chg_s0 n ih ?_
    simp only [chg_t0, dge (show ks.length ≤ i by omega), cond_false, List.drop_eq_nil_of_le (show ks.length ≤ i by omega), List.flatMap_nil, List.append_nil]
  | succ m ih2 =>
    intro i v0 out h1 h2 h3
    have hi : i < ks.length := by omega
    obtain ⟨hk1, hk2⟩ := hm ks[i] (List.getElem_mem hi)
    have e0 : decide (p.length + ks[i].length ≤ maxStr) = true := dT (by rw [msB]; omega)
    have e3 : w64 ((i : Int) + 1) = ((i + 1 : Nat) : Int) := by rw [w64_id (by omega) (by omega)]; omega
    refine chg_s0 n ih ?_
    rw [← List.getElem_cons_drop hi, List.flatMap_cons, ← List.append_assoc] at h3 ⊢
    simp only [chg_t0, dlt hi, d0, gd ks _ i hi, Bool.and_self, cond_true, node_eta, fa, fb, e0, e3]
    generalize ks[i] = k at *
    have hl : (out ++ stepC (chgL n) p a b k).length ≤ 1000000 := by rw [List.length_append] at h3; omega
    have fin : ∀ (v : Nat) (o : List (List UInt8)), o = out ++ stepC (chgL n) p a b k → GrM E Tryz.f25 ⟨.str, out ++ stepC (chgL n) p a b k ++ (ks.drop (i + 1)).flatMap (stepC (chgL n) p a b)⟩ 0 (chg_C0 v p ks ks.length ((i + 1 : Nat) : Int) o a.kind a.text a.keys a.kids b.kind b.text b.keys b.kids) = some ⟨.str, out ++ stepC (chgL n) p a b k ++ (ks.drop (i + 1)).flatMap (stepC (chgL n) p a b)⟩ := by
      rintro v o rfl
      exact GrM_of (ih2 (i + 1) v _ (by omega) (by omega) h3)
    cases hg : getB a k == getB b k with
    | false =>
      have es : stepC (chgL n) p a b k = [p ++ k] := by simp only [stepC, hg, cond_false]
      have e1 : decide ((out.length + [p ++ k].length) * 16 ≤ maxBytes) = true := dT (by rw [mb]; rw [es, List.length_append] at hl; omega)
      simp only [Bool.not_false, cond_true, e1]
      exact fin _ _ (by rw [es])
    | true =>
      have es : stepC (chgL n) p a b k = chgL n (p ++ k) (getV a k) (getV b k) := by simp only [stepC, hg, cond_true]
      have hg' : getB a k = getB b k := by simpa using hg
      have ga : getB a k = true := hk2.elim id (fun h => hg'.trans h)
      have gb : getB b k = true := hg' ▸ ga
      have e1 : okC n out (p ++ k) (getV a k) (getV b k) = true := okC_iff.2 ⟨⟨⟨⟨by omega, wf_get ha ga⟩, wf_get hb gb⟩, by rw [List.length_append]; omega⟩, by rw [← es]; exact hl⟩
      simp only [Bool.not_true, cond_false, e1, cond_true]
      exact fin _ _ (by rw [es]; rfl)
theorem chg_mok (n : Nat) : MutOk E chg_mid (chg_M n) := by
  induction n with
  | zero => exact mut3_bot chg_mex fun x y z u => by simp [okC, wf]
  | succ n ih =>
    refine chg_mok_of n ih fun out p a b hk => ?_
    obtain ⟨⟨⟨⟨hn, hwa⟩, hwb⟩, hp⟩, hlen⟩ := okC_iff.1 hk
    have ha := wf_iff.1 hwa
    have hb := wf_iff.1 hwb
    have h5 : ln5 a.keys b.keys = true := by simp only [ln5, decide_eq_true_eq]; omega
    have hok : okS 12 a b = true := by simp only [okS, wf_dp12 (by decide) hn hwa, wf_dp12 (by decide) hn hwb, Bool.and_self]
    simp only [chgV] at hlen ⊢
    simp only [chg_t, node_eta, h5, hok, cond_true]
    cases hpr : pairsV a b with
    | false =>
      simp only [Bool.not_false, cond_true]
      unfold chgL at hlen ⊢
      rw [hpr, cond_false] at hlen ⊢
      cases hs : same 12 a b with
      | false =>
        rw [hs, cond_false] at hlen
        have e1 : decide ((out.length + [p].length) * 16 ≤ maxBytes) = true := dT (by rw [mb]; rw [List.length_append] at hlen; omega)
        simp only [Bool.not_false, cond_true, cond_false, e1]
      | true =>
        simp only [Bool.not_true, cond_true, cond_false, List.append_nil]
    | true =>
      simp only [Bool.not_true, cond_false]
      unfold chgL at hlen ⊢
      rw [hpr, cond_true] at hlen ⊢
      have hl := both_len a.keys b.keys
      obtain ⟨k3, k3'⟩ := pairsV_iff.1 hpr
      have hpl := pre_len p
      have main := GrM_of (chg_loop n ih hn a b hwa hwb (pre p) (by omega) (both a.keys b.keys) (by omega) (fun k hk => by
        rcases mem_both hk with h | h
        · exact ⟨ha.2.2.2.2.1 _ h, .inl (getB_of hwa k3 h)⟩
        · exact ⟨hb.2.2.2.2.1 _ h, .inr (getB_of hwb k3' h)⟩) _ 0 out.length out rfl (Nat.zero_le _) hlen)
      rw [List.drop_zero] at main
      cases hz : p == ([] : List UInt8) with
      | false =>
        have e2 : decide (p.length + [(10 : UInt8)].length ≤ maxStr) = true := dT (by rw [msB, List.length_singleton]; omega)
        have ep : pre p = p ++ [10] := by simp only [pre, hz, cond_false]
        simp only [Bool.not_false, cond_true, e2]
        rw [ep] at main ⊢
        exact main
      | true =>
        have ep : pre p = p := by
          have : p = [] := by simpa using hz
          subst this; rfl
        simp only [Bool.not_true, cond_false]
        rw [ep] at main ⊢
        exact main
def okCh (a b : Node) : Bool := okC 12 [] [] a b
def changedV (a b : Node) : List (List UInt8) := chgL 12 [] a b
noncomputable def changed_W : FnW E := fn2 (E := E) .api_Node .api_Node .l_str okCh changedV
def changed_id : FuncId := 12
noncomputable def changed_O : Oracle E := orac [] [] [(25, chg_M 12)] []
noncomputable def changed_H : Hint E := Hint.mk [] [] [] [] []
noncomputable def changed_t (_G : Nat → ASt E → Option (List (TV E))) (x0 : Node) (x1 : Node) : Option (List (TV E)) :=
  bif ((okC 12) ([] : List (List UInt8)) ([] : List UInt8) (⟨x0.kind, x0.text, x0.keys, x0.kids⟩ : Node) (⟨x1.kind, x1.text, x1.keys, x1.kids⟩ : Node)) then some [⟨.l_str, ((chgV 12) ([] : List (List UInt8)) ([] : List UInt8) (⟨x0.kind, x0.text, x0.keys, x0.kids⟩ : Node) (⟨x1.kind, x1.text, x1.keys, x1.kids⟩ : Node))⟩] else none
theorem changed_e (G : Nat → ASt E → Option (List (TV E))) (x0 : Node) (x1 : Node) : runE changed_O changed_H G Tryz.f12 [⟨.api_Node, x0⟩, ⟨.api_Node, x1⟩] = changed_t G x0 x1 := by kernel_rfl
theorem changed_f : Tryz.prog.funcs[12]? = some Tryz.f12 := by kernel_rfl
theorem changed_n : (Tryz.f12.name == "runtime.NumGoroutine") = false := by kernel_rfl
theorem changed_b : Tryz.f12.body.isNone = false := by kernel_rfl
theorem changed_ex : ∃ fn, Tryz.prog.funcs[12]? = some fn ∧ (fn.name == "runtime.NumGoroutine") = false ∧ fn.body.isNone = false := ⟨Tryz.f12, changed_f, changed_n, changed_b⟩
theorem changed_hO : OracleOk E changed_O := orac_ok .nil .nil (.cons (chg_mok 12) .nil) .nil
theorem changed_ok_of (h : ∀ (x0 : Node) (x1 : Node), okCh x0 x1 = true → changed_t (Gr E Tryz.f12 [⟨.l_str, changedV x0 x1⟩]) x0 x1 = some [⟨.l_str, changedV x0 x1⟩]) : FnOk E changed_id changed_W := fn2_ok changed_hO mix changed_f changed_n changed_b (fun x0 x1 hk => (changed_e _ x0 x1).trans (h x0 x1 hk))
theorem changed_ok : FnOk E changed_id changed_W := changed_ok_of fun a b hk => by
  have hk : okC 12 [] [] a b = true := hk
  simp only [changed_t, node_eta, hk, cond_true]
  rfl
/-! ### What is small has kinds that there are -/
theorem left_kd : ∀ (n : Nat) (x : Node) (d l : Int), d + (n + 1 : Nat) = 14 → 0 ≤ leftV (n + 1) x d l → kd n x = true
  | n, x, d, l, hd, h => by
    unfold leftV at h
    cases h1 : badA x d (l - 1) with
    | true => rw [h1, cond_true] at h; omega
    | false =>
      cases h2 : badB x with
      | true => rw [h1, h2, cond_false, cond_true] at h; omega
      | false =>
        cases h3 : badC x (l - 1) with
        | true => rw [h1, h2, h3, cond_false, cond_false, cond_true] at h; omega
        | false =>
          rw [h1, h2, h3, cond_false, cond_false, cond_false] at h
          have hA : ¬ 12 < d ∧ 0 ≤ x.kind ∧ x.kind ≤ 3 := by
            unfold badA at h1
            refine ⟨fun a => ?_, ?_⟩
            · rw [dT a] at h1
              cases hx : decide (l - 1 < 0) <;> rw [hx] at h1 <;> cases h1
            · by_cases a : x.kind < 0
              · rw [dT a] at h1
                cases hx : decide (l - 1 < 0) <;> cases hy : decide (12 < d) <;> rw [hx, hy] at h1 <;> cases h1
              · by_cases b : 3 < x.kind
                · rw [dT b] at h1
                  cases hx : decide (l - 1 < 0) <;> cases hy : decide (12 < d) <;> cases hz : decide (x.kind < 0) <;> rw [hx, hy, hz] at h1 <;> cases h1
                · omega
          obtain ⟨m, rfl⟩ : ∃ m, n = m + 1 := ⟨n - 1, by omega⟩
          obtain ⟨q1, q2⟩ := kidsV_le (fun k l h => leftV_le (m + 1) k (d + 1) l h) x.kids (l - 1) h
          have hrec : ∀ y ∈ x.kids, kd m y = true := fun y hy => by
            obtain ⟨l', h4, h5⟩ := q2 y hy
            exact left_kd m y (d + 1) l' (by omega) h4
          have hB : (x.kind ≠ 3 → x.keys.length = 0) ∧ (x.kind < 2 → x.kids.length = 0) := by
            unfold badB at h2
            constructor
            · intro e
              by_cases a1 : (0 : Int) < (x.keys.length : Int)
              · rw [neT e, dT a1] at h2
                cases hx : (bif x.kind != 1 then decide ((0 : Int) < (x.text.length : Int)) else false) <;> rw [hx] at h2 <;> cases h2
              · omega
            · intro e
              by_cases a1 : (0 : Int) < (x.kids.length : Int)
              · rw [dT e, dT a1] at h2
                cases hx : (bif x.kind != 1 then decide ((0 : Int) < (x.text.length : Int)) else false) <;> cases hy : (bif x.kind != 3 then decide ((0 : Int) < (x.keys.length : Int)) else false) <;> rw [hx, hy] at h2 <;> cases h2
              · omega
          exact kd_iff.2 ⟨⟨hA.2, hB.1⟩, hB.2, hrec⟩
  termination_by n => n
theorem small_nd {x : Node} (h : smallV x 200 = true) : okNd 12 x = true := by
  have hw := small_wf h
  unfold smallV at h
  by_cases h0 : 0 ≤ leftV 13 x 1 200
  · simp only [okNd, hw, left_kd 12 x 1 200 (by decide) h0, Bool.and_self]
  · rw [dF h0] at h; cases h
/-! ### Laying one over another, by keys -/
theorem lk_isSome {k : List UInt8} {ks : List (List UInt8)} {vs : List Node} (h : ks.length = vs.length) : k ∈ ks ↔ (lk ks vs k).isSome = true := by
  constructor
  · intro hk
    obtain ⟨v, hv⟩ := lk_some h hk
    rw [hv]; rfl
  · intro hk
    cases hv : lk ks vs k with
    | none => rw [hv] at hk; cases hk
    | some v => exact lk_key hv
theorem ss_nmem {a : List UInt8} {t : List (List UInt8)} (h : Pl.SS (a :: t)) : a ∉ t := fun hm => Pl.s_irrefl a ((List.pairwise_cons.1 h).1 a hm)
theorem kids_ext : ∀ (ks : List (List UInt8)) (vs ws : List Node), Pl.SS ks → ks.length = vs.length → ks.length = ws.length → (∀ k, lk ks vs k = lk ks ws k) → vs = ws
  | [], [], [], _, _, _, _ => rfl
  | a :: t, v :: vs, w :: ws, hs, h1, h2, h => by
    have ha := h a
    simp only [lk, if_pos] at ha
    have e : v = w := Option.some.inj ha
    have ht := kids_ext t vs ws (List.pairwise_cons.1 hs).2 (by simpa using h1) (by simpa using h2) fun k => by
      by_cases e2 : k = a
      · subst e2
        rw [lk_none (by simpa using h1) (ss_nmem hs), lk_none (by simpa using h2) (ss_nmem hs)]
      · have hk := h k
        simp only [lk] at hk
        rw [if_neg e2, if_neg e2] at hk
        exact hk
    rw [e, ht]
  | [], [], _ :: _, _, _, h, _ => by simp at h
  | [], _ :: _, _, _, h, _, _ => by simp at h
  | _ :: _, [], _, _, h, _, _ => by simp at h
  | _ :: _, _ :: _, [], _, _, h, _ => by simp at h
/-- A map in order. -/
def MapO (x : Node) : Prop := (x.kind = 3 ∧ x.text = []) ∧ Pl.SS x.keys ∧ x.keys.length = x.kids.length
def lkN (x : Node) (k : List UInt8) : Option Node := lk x.keys x.kids k
theorem mapO_ext {x y : Node} (hx : MapO x) (hy : MapO y) (h : ∀ k, lkN x k = lkN y k) : x = y := by
  obtain ⟨⟨x1, x2⟩, x3, x4⟩ := hx
  obtain ⟨⟨y1, y2⟩, y3, y4⟩ := hy
  have hk : x.keys = y.keys := by
    have e : Pl.sortD x.keys = y.keys := Pl.sortD_eq y3 fun k => by
      rw [lk_isSome x4, lk_isSome y4]
      have := h k
      unfold lkN at this
      rw [this]
    have e' : Pl.sortD x.keys = x.keys := Pl.sortD_eq x3 fun k => Iff.rfl
    rw [← e, e']
  have hv : x.kids = y.kids := kids_ext y.keys x.kids y.kids y3 (by rw [← hk]; exact x4) y4 fun k => by
    have := h k
    unfold lkN at this
    rw [hk] at this
    exact this
  cases x; cases y
  simp only at x1 x2 y1 y2 hk hv
  subst x1; subst x2; subst y1; subst y2; subst hk; subst hv; rfl
def comb (f : Node → Node → Node) (k : List UInt8) (a b : Option Node) : Option Node := match a, b with
  | none, y => y
  | some u, none => some u
  | some u, some v => some (bif k == ext then v else f u v)
theorem two_map {n : Nat} {a b : Node} (ha : a.kind = 3) (hb : b.kind = 3) : twoV (n + 1) a b = ⟨3, [], both a.keys b.keys, (both a.keys b.keys).map (pick (twoV n) a b)⟩ := by
  unfold twoV
  rw [pairsV_iff.2 ⟨ha, hb⟩]
  rfl
theorem two_mapO {n : Nat} {a b : Node} (ha : a.kind = 3) (hb : b.kind = 3) : MapO (twoV (n + 1) a b) := by
  rw [two_map ha hb]
  exact ⟨⟨rfl, rfl⟩, (Pl.sortD_spec _).1, by simp⟩
theorem getB_lk {a : Node} (ha : a.kind = 3) (k : List UInt8) : getB a k = (lkN a k).isSome := by unfold getB get; rw [if_pos ha]; rfl
theorem getV_lk {a : Node} (ha : a.kind = 3) (k : List UInt8) : getV a k = (lkN a k).getD zn := by unfold getV get; rw [if_pos ha]; rfl
theorem two_lk {n : Nat} {a b : Node} (ha : MapO a) (hb : MapO b) (k : List UInt8) : lkN (twoV (n + 1) a b) k = comb (twoV n) k (lkN a k) (lkN b k) := by
  rw [two_map ha.1.1 hb.1.1]
  by_cases hm : k ∈ both a.keys b.keys
  · have e : lkN ⟨3, [], both a.keys b.keys, (both a.keys b.keys).map (pick (twoV n) a b)⟩ k = some (pick (twoV n) a b k) := lk_map _ _ hm
    rw [e]
    unfold pick
    rw [getB_lk ha.1.1, getB_lk hb.1.1, getV_lk ha.1.1, getV_lk hb.1.1]
    have hor := mem_both hm
    rw [lk_isSome ha.2.2, lk_isSome hb.2.2] at hor
    change (lkN a k).isSome = true ∨ (lkN b k).isSome = true at hor
    cases hA : lkN a k with
    | none =>
      cases hB : lkN b k with
      | none => rw [hA, hB] at hor; rcases hor with h | h <;> cases h
      | some v => rfl
    | some u =>
      cases hB : lkN b k with
      | none => rfl
      | some v => cases hk : k == ext <;> simp [comb, hk]
  · have e : lkN ⟨3, [], both a.keys b.keys, (both a.keys b.keys).map (pick (twoV n) a b)⟩ k = none := lk_none (by simp) hm
    rw [e]
    have hA : lkN a k = none := lk_none ha.2.2 fun h => hm (Pl.sortD_mem.2 (List.mem_append_left _ h))
    have hB : lkN b k = none := lk_none hb.2.2 fun h => hm (Pl.sortD_mem.2 (List.mem_append_right _ h))
    rw [hA, hB]; rfl
theorem fits_mapO {f : List UInt8 → Sh} {x : Node} (h : fits (.map f) x) : MapO x := ⟨h.1, h.2.1⟩
theorem two_leaf {n : Nat} {a b : Node} (hb : b.kind ≠ 3) : twoV n a b = b := by
  cases n with
  | zero => rfl
  | succ n =>
    have hp : pairsV a b = false := by
      cases h : pairsV a b with
      | false => rfl
      | true => exact absurd (pairsV_iff.1 h).2 hb
    unfold twoV
    rw [hp]; rfl
theorem two_fits : ∀ (n : Nat) (sh : Sh) (a b : Node), fits sh a → fits sh b → fits sh (twoV n a b)
  | 0, _, _, _, _, hb => hb
  | n + 1, .leaf, a, b, _, hb => by rw [two_leaf hb]; exact hb
  | n + 1, .map f, a, b, ha, hb => by
    have hm := two_mapO (n := n) ha.1.1 hb.1.1
    refine ⟨hm.1, hm.2, fun k v hk => ?_⟩
    have hk : lkN (twoV (n + 1) a b) k = some v := hk
    rw [two_lk (fits_mapO ha) (fits_mapO hb)] at hk
    by_cases hx : k = ext
    · exact .inl hx
    · cases hA : lkN a k with
      | none => rw [hA] at hk; exact hb.2.2 k v hk
      | some u =>
        cases hB : lkN b k with
        | none => rw [hA, hB] at hk; exact ha.2.2 k v (hA.trans hk)
        | some w =>
          rw [hA, hB] at hk
          have hk := Option.some.inj hk
          rw [show (k == ext) = false by simpa using hx, cond_false] at hk
          rw [← hk]
          exact .inr (two_fits n (f k) u w ((ha.2.2 k u hA).resolve_left hx) ((hb.2.2 k w hB).resolve_left hx))
/-- In whichever brackets. -/
theorem two_assoc : ∀ (n : Nat) (sh : Sh) (a b c : Node), fits sh a → fits sh b → fits sh c → twoV n (twoV n a b) c = twoV n a (twoV n b c)
  | 0, _, _, _, _, _, _, _ => rfl
  | n + 1, .leaf, a, b, c, _, _, hc => by rw [two_leaf (a := twoV (n + 1) a b) hc, two_leaf (a := b) hc, two_leaf (a := a) hc]
  | n + 1, .map f, a, b, c, ha, hb, hc => by
    have ma := fits_mapO ha
    have mb' := fits_mapO hb
    have mc := fits_mapO hc
    have mab := two_mapO (n := n) ha.1.1 hb.1.1
    have mbc := two_mapO (n := n) hb.1.1 hc.1.1
    refine mapO_ext (two_mapO mab.1.1 mc.1.1) (two_mapO ma.1.1 mbc.1.1) fun k => ?_
    rw [two_lk mab mc, two_lk ma mbc, two_lk ma mb', two_lk mb' mc]
    cases hA : lkN a k with
    | none => rfl
    | some u =>
      cases hB : lkN b k with
      | none => rfl
      | some v =>
        cases hC : lkN c k with
        | none => rfl
        | some w =>
          simp only [comb]
          cases hk : k == ext with
          | true => rfl
          | false =>
            have hx : k ≠ ext := by simpa using hk
            simp only [cond_false]
            rw [two_assoc n (f k) u v w ((ha.2.2 k u hA).resolve_left hx) ((hb.2.2 k v hB).resolve_left hx) ((hc.2.2 k w hC).resolve_left hx)]
/-- Over itself. -/
theorem two_self : ∀ (n : Nat) (sh : Sh) (a : Node), fits sh a → twoV n a a = a
  | 0, _, _, _ => rfl
  | n + 1, .leaf, a, ha => two_leaf ha
  | n + 1, .map f, a, ha => by
    have ma := fits_mapO ha
    refine mapO_ext (two_mapO ma.1.1 ma.1.1) ma fun k => ?_
    rw [two_lk ma ma]
    cases hA : lkN a k with
    | none => rfl
    | some u =>
      simp only [comb]
      cases hk : k == ext with
      | true => rfl
      | false =>
        have hx : k ≠ ext := by simpa using hk
        simp only [cond_false]
        rw [two_self n (f k) u ((ha.2.2 k u hA).resolve_left hx)]
def noN : Node := ⟨3, [], [], []⟩
theorem noN_mapO : MapO noN := ⟨⟨rfl, rfl⟩, List.Pairwise.nil, rfl⟩
theorem two_none {n : Nat} {a : Node} (ma : MapO a) : twoV (n + 1) noN a = a := mapO_ext (two_mapO rfl ma.1.1) ma fun k => by
  rw [two_lk noN_mapO ma]; rfl
theorem none_two {n : Nat} {a : Node} (ma : MapO a) : twoV (n + 1) a noN = a := mapO_ext (two_mapO ma.1.1 rfl) ma fun k => by
  rw [two_lk ma noN_mapO]
  cases lkN a k <;> rfl
theorem two_wg : ∀ (n A B : Nat) (a b : Node), wg A n a = true → wg B n b = true → wg (A + B) n (twoV n a b) = true
  | 0, _, _, _, _, h, _ => by cases h
  | n + 1, A, B, a, b, ha, hb => by
    have ga := wg_iff.1 ha
    have gb := wg_iff.1 hb
    cases hp : pairsV a b with
    | false =>
      have : twoV (n + 1) a b = b := by unfold twoV; rw [hp]; rfl
      rw [this]
      exact wg_up (by omega) hb
    | true =>
      obtain ⟨h3, h3'⟩ := pairsV_iff.1 hp
      rw [two_map h3 h3']
      have hl := both_len a.keys b.keys
      refine wg_iff.2 ⟨by simp only; omega, by simp only [List.length_map]; omega, fun _ => by simp, fun y hy => ?_⟩
      obtain ⟨k, hk, rfl⟩ := List.mem_map.1 hy
      unfold pick
      cases gB : getB b k with
      | false =>
        have gA : getB a k = true := (mem_both hk).elim (getB_g ha h3) fun h => by rw [getB_g hb h3' h] at gB; cases gB
        exact wg_up (by omega) (wg_get ha gA)
      | true =>
        rw [cond_true]
        cases hc : getB a k && !(k == ext) with
        | false => exact wg_up (by omega) (wg_get hb gB)
        | true =>
          rw [Bool.and_eq_true] at hc
          exact two_wg n A B _ _ (wg_get ha hc.1) (wg_get hb gB)
theorem sameW_refl {f : Node → Node → Bool} : ∀ (l : List Node), (∀ x ∈ l, f x x = true) → sameW f l l = true
  | [], _ => rfl
  | a :: t, h => by
    unfold sameW
    rw [h a List.mem_cons_self, sameW_refl t fun x hx => h x (List.mem_cons_of_mem _ hx)]
    rfl
theorem same_refl : ∀ (n : Nat) (x : Node), dp n x = true → same n x x = true
  | 0, _, h => by cases h
  | n + 1, x, h => by
    unfold same
    rw [sameW_refl x.kids fun y hy => same_refl n y ((dp_iff.1 h).2 y hy)]
    simp
def oneV (k : List UInt8) (x : Node) : Node := ⟨3, [], [k], [x]⟩
noncomputable def one_W : FnW E := fn2 (E := E) .str .api_Node .api_Node (fun _ _ => true) oneV
def one_id : FuncId := 11
noncomputable def one_O : Oracle E := orac [] [] [] []
noncomputable def one_H : Hint E := Hint.mk [] [] [] [] []
noncomputable def one_t (_G : Nat → ASt E → Option (List (TV E))) (x0 : List UInt8) (x1 : Node) : Option (List (TV E)) :=
  some [⟨.api_Node, (⟨(3 : Int), ([] : List UInt8), ([x0] : List (List UInt8)), ([(⟨x1.kind, x1.text, x1.keys, x1.kids⟩ : Node)] : List Node)⟩ : Node)⟩]
theorem one_e (G : Nat → ASt E → Option (List (TV E))) (x0 : List UInt8) (x1 : Node) : runE one_O one_H G Tryz.f11 [⟨.str, x0⟩, ⟨.api_Node, x1⟩] = one_t G x0 x1 := by kernel_rfl
theorem one_f : Tryz.prog.funcs[11]? = some Tryz.f11 := by kernel_rfl
theorem one_n : (Tryz.f11.name == "runtime.NumGoroutine") = false := by kernel_rfl
theorem one_b : Tryz.f11.body.isNone = false := by kernel_rfl
theorem one_ex : ∃ fn, Tryz.prog.funcs[11]? = some fn ∧ (fn.name == "runtime.NumGoroutine") = false ∧ fn.body.isNone = false := ⟨Tryz.f11, one_f, one_n, one_b⟩
theorem one_hO : OracleOk E one_O := orac_ok .nil .nil .nil .nil
theorem one_ok_of (h : ∀ (x0 : List UInt8) (x1 : Node), one_t (Gr E Tryz.f11 [⟨.api_Node, oneV x0 x1⟩]) x0 x1 = some [⟨.api_Node, oneV x0 x1⟩]) : FnOk E one_id one_W := fn2_ok one_hO mix one_f one_n one_b (fun x0 x1 _ => (one_e _ x0 x1).trans (h x0 x1))
theorem one_ok : FnOk E one_id one_W := one_ok_of fun k x => by
  simp only [one_t, node_eta]
  rfl
/-! The closed values of the law's own example -/
def exX : Node := ⟨1, [49], [], []⟩
def exY : Node := ⟨1, [50], [], []⟩
def exA : Node := oneV [97] (oneV [120] exX)
def exB : Node := oneV [97] (oneV [121] exY)
theorem both1 : both [[97]] [[97]] = [[97]] := Pl.sortD_eq (by simp [Pl.SS]) fun x => by simp
theorem both2 : both [[120]] [[121]] = [[120], [121]] := Pl.sortD_eq (by unfold Pl.SS; decide) fun x => by simp
theorem two1 (n : Nat) : twoV (n + 1) exA exB = ⟨3, [], [[97]], [twoV n (oneV [120] exX) (oneV [121] exY)]⟩ := by
  show (bif pairsV exA exB then (⟨3, [], both exA.keys exB.keys, (both exA.keys exB.keys).map (pick (twoV n) exA exB)⟩ : Node) else exB) = _
  rw [show pairsV exA exB = true from rfl, cond_true, show both exA.keys exB.keys = [[97]] from both1]
  rfl
theorem two2 (n : Nat) : (twoV (n + 1) (oneV [120] exX) (oneV [121] exY)).keys = [[120], [121]] := by
  unfold twoV
  rw [show pairsV (oneV [120] exX) (oneV [121] exY) = true from rfl, cond_true]
  exact both2
theorem chXY : chgL 12 [] exX exY = [[]] := rfl
noncomputable def awake_W : FnW E := fn0 (E := E) .bool true true
def awake_id : FuncId := 5
noncomputable def awake_O : Oracle E := orac [(12, changed_W), (8, two_W 12), (11, one_W)] [] [] []
noncomputable def awake_H : Hint E := Hint.mk [] [] [] [] []
noncomputable def awake_t (_G : Nat → ASt E → Option (List (TV E)))  : Option (List (TV E)) :=
  bif ((okT 12) (oneV ([97] : List UInt8) (oneV ([120] : List UInt8) (⟨(1 : Int), ([49] : List UInt8), ([] : List (List UInt8)), ([] : List Node)⟩ : Node))) (oneV ([97] : List UInt8) (oneV ([121] : List UInt8) (⟨(1 : Int), ([50] : List UInt8), ([] : List (List UInt8)), ([] : List Node)⟩ : Node)))) then (bif ((decide ((0 : Int) ≤ (0 : Int)) && decide ((0 : Int) < ((((twoV 12) (oneV ([97] : List UInt8) (oneV ([120] : List UInt8) (⟨(1 : Int), ([49] : List UInt8), ([] : List (List UInt8)), ([] : List Node)⟩ : Node))) (oneV ([97] : List UInt8) (oneV ([121] : List UInt8) (⟨(1 : Int), ([50] : List UInt8), ([] : List (List UInt8)), ([] : List Node)⟩ : Node)))).kids).length : Int))) || !(((((twoV 12) (oneV ([97] : List UInt8) (oneV ([120] : List UInt8) (⟨(1 : Int), ([49] : List UInt8), ([] : List (List UInt8)), ([] : List Node)⟩ : Node))) (oneV ([97] : List UInt8) (oneV ([121] : List UInt8) (⟨(1 : Int), ([50] : List UInt8), ([] : List (List UInt8)), ([] : List Node)⟩ : Node)))).keys).length : Int) == (1 : Int))) then (bif ((okCh (⟨(1 : Int), ([49] : List UInt8), ([] : List (List UInt8)), ([] : List Node)⟩ : Node) (⟨(1 : Int), ([50] : List UInt8), ([] : List (List UInt8)), ([] : List Node)⟩ : Node)) || !(bif (((((twoV 12) (oneV ([97] : List UInt8) (oneV ([120] : List UInt8) (⟨(1 : Int), ([49] : List UInt8), ([] : List (List UInt8)), ([] : List Node)⟩ : Node))) (oneV ([97] : List UInt8) (oneV ([121] : List UInt8) (⟨(1 : Int), ([50] : List UInt8), ([] : List (List UInt8)), ([] : List Node)⟩ : Node)))).keys).length : Int) == (1 : Int)) then ((((List.getD (((twoV 12) (oneV ([97] : List UInt8) (oneV ([120] : List UInt8) (⟨(1 : Int), ([49] : List UInt8), ([] : List (List UInt8)), ([] : List Node)⟩ : Node))) (oneV ([97] : List UInt8) (oneV ([121] : List UInt8) (⟨(1 : Int), ([50] : List UInt8), ([] : List (List UInt8)), ([] : List Node)⟩ : Node)))).kids) (Int.toNat (0 : Int)) (dflt .api_Node)).keys).length : Int) == (2 : Int)) else false)) then some [⟨.bool, (bif (bif (((((twoV 12) (oneV ([97] : List UInt8) (oneV ([120] : List UInt8) (⟨(1 : Int), ([49] : List UInt8), ([] : List (List UInt8)), ([] : List Node)⟩ : Node))) (oneV ([97] : List UInt8) (oneV ([121] : List UInt8) (⟨(1 : Int), ([50] : List UInt8), ([] : List (List UInt8)), ([] : List Node)⟩ : Node)))).keys).length : Int) == (1 : Int)) then ((((List.getD (((twoV 12) (oneV ([97] : List UInt8) (oneV ([120] : List UInt8) (⟨(1 : Int), ([49] : List UInt8), ([] : List (List UInt8)), ([] : List Node)⟩ : Node))) (oneV ([97] : List UInt8) (oneV ([121] : List UInt8) (⟨(1 : Int), ([50] : List UInt8), ([] : List (List UInt8)), ([] : List Node)⟩ : Node)))).kids) (Int.toNat (0 : Int)) (dflt .api_Node)).keys).length : Int) == (2 : Int)) else false) then (((changedV (⟨(1 : Int), ([49] : List UInt8), ([] : List (List UInt8)), ([] : List Node)⟩ : Node) (⟨(1 : Int), ([50] : List UInt8), ([] : List (List UInt8)), ([] : List Node)⟩ : Node)).length : Int) == (1 : Int)) else false)⟩] else none) else none) else none
theorem awake_e (G : Nat → ASt E → Option (List (TV E)))  : runE awake_O awake_H G Tryz.f5 [] = awake_t G  := by kernel_rfl
theorem awake_f : Tryz.prog.funcs[5]? = some Tryz.f5 := by kernel_rfl
theorem awake_n : (Tryz.f5.name == "runtime.NumGoroutine") = false := by kernel_rfl
theorem awake_b : Tryz.f5.body.isNone = false := by kernel_rfl
theorem awake_ex : ∃ fn, Tryz.prog.funcs[5]? = some fn ∧ (fn.name == "runtime.NumGoroutine") = false ∧ fn.body.isNone = false := ⟨Tryz.f5, awake_f, awake_n, awake_b⟩
theorem awake_hO : OracleOk E awake_O := orac_ok (.cons changed_ok (.cons (two_ok 12) (.cons one_ok .nil))) .nil .nil .nil
theorem awake_ok_of (h : awake_t (Gr E Tryz.f5 [⟨.bool, true ⟩])  = some [⟨.bool, true ⟩]) : FnOk E awake_id awake_W := fn0_ok awake_hO mix awake_f awake_n awake_b (fun _ => (awake_e _).trans h)
theorem awake_ok : FnOk E awake_id awake_W := awake_ok_of <| by
  have t1 : twoV 12 exA exB = ⟨3, [], [[97]], [twoV 11 (oneV [120] exX) (oneV [121] exY)]⟩ := two1 11
  have t2 : (twoV 11 (oneV [120] exX) (oneV [121] exY)).keys = [[120], [121]] := two2 10
  have h1 : okT 12 exA exB = true := rfl
  have h2 : okCh exX exY = true := okC_iff.2 ⟨⟨⟨⟨by decide, rfl⟩, rfl⟩, by decide⟩, by rw [chXY]; decide⟩
  have h3 : changedV exX exY = [[]] := chXY
  change awake_t _ = _
  unfold awake_t
  change (bif okT 12 exA exB then (bif (decide ((0 : Int) ≤ 0) && decide ((0 : Int) < (((twoV 12 exA exB).kids).length : Int))) || !((((twoV 12 exA exB).keys).length : Int) == 1) then (bif okCh exX exY || !(bif (((twoV 12 exA exB).keys).length : Int) == 1 then (((List.getD (twoV 12 exA exB).kids (Int.toNat 0) (dflt .api_Node)).keys).length : Int) == 2 else false) then some [(⟨.bool, (bif (bif (((twoV 12 exA exB).keys).length : Int) == 1 then (((List.getD (twoV 12 exA exB).kids (Int.toNat 0) (dflt .api_Node)).keys).length : Int) == 2 else false) then (((changedV exX exY).length : Int) == 1) else false)⟩ : TV E)] else none) else none) else none) = _
  rw [h1, h2, h3, t1]
  simp only [cond_true, Bool.true_or, List.getD, List.length_singleton, Int.toNat_zero, List.getElem?_cons_zero, Option.getD_some, t2]
  rfl
end Go.Proofs.YtoelhlikomifjaaGreat.Rf