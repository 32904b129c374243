/- The law of overlaid nodes: where two nodes differ. -/
import Derived.Test.YtnbohemhgbkdlaaBlendB
namespace Go.Proofs.Ytnbohemhgbkdlaa.Bl
open Go Go.RowKit Go.Sort Go.Proofs.Ytnbohemhgbkdlaa.Mir
/-! ### Where two nodes differ -/
theorem mut3_bot {P : Program} {E : Env P} {f : FuncId} {a b c d : E.Ty} {back : Bool} {ok : List (E.Den a) → E.Den b → E.Den c → E.Den d → Bool} {F : List (E.Den a) → E.Den b → E.Den c → E.Den d → List (E.Den a)} (ex : ∃ fn, P.funcs[f]? = some fn ∧ (fn.name == "runtime.NumGoroutine") = false ∧ fn.body.isNone = false) (h : ∀ x y z u, ok x y z u = false) : MutOk E f (mut3 a b c d back ok F) :=
  ⟨ex, fun t l rest bk l' hr => by
    unfold mut3 at hr
    split at hr
    · split at hr
      · split at hr
        · rw [h] at hr
          cases hr
        · cases hr
      · cases hr
    · cases hr⟩
theorem ms : maxStr = 4611686018427387904 := rfl
def stepC (f : List UInt8 → Node → Node → List (List UInt8)) (p : List UInt8) (a b : Node) (k : List UInt8) : List (List UInt8) := bif getB a k == getB b k then f (p ++ k) (getV a k) (getV b k) else [p ++ k]
def pre (p : List UInt8) : List UInt8 := bif p == [] then [] else p ++ [10]
def chgL : Nat → List UInt8 → Node → Node → List (List UInt8)
  | 0, _, _, _ => []
  | n + 1, p, a, b => bif pairsV a b then (both a.keys b.keys).flatMap (stepC (chgL n) (pre p) a b) else bif same 12 a b then [] else [p]
def chgV (n : Nat) (out : List (List UInt8)) (p : List UInt8) (a b : Node) : List (List UInt8) := out ++ chgL n p a b
def okC (n : Nat) (out : List (List UInt8)) (p : List UInt8) (a b : Node) : Bool := decide (n ≤ 12) && wf 200 n a && wf 200 n b && decide (p.length ≤ 201 * (13 - n)) && decide ((out ++ chgL n p a b).length ≤ 1000000)
theorem okC_iff {n : Nat} {out : List (List UInt8)} {p : List UInt8} {a b : Node} : okC n out p a b = true ↔ (((n ≤ 12 ∧ wf 200 n a = true) ∧ wf 200 n b = true) ∧ p.length ≤ 201 * (13 - n)) ∧ (out ++ chgL n p a b).length ≤ 1000000 := by simp [okC]
theorem pre_len (p : List UInt8) : (pre p).length ≤ p.length + 1 := by
  unfold pre
  cases p == [] <;> simp
theorem mem_both {a b : List (List UInt8)} {k : List UInt8} (h : k ∈ both a b) : k ∈ a ∨ k ∈ b := by
  have h : k ∈ Pl.sortD (a ++ b) := h
  exact List.mem_append.1 (Pl.sortD_mem.1 h)
noncomputable def chg_M (n : Nat) : FnM E := mut3 (E := E) .str .str .api_Node .api_Node true (okC n) (chgV n)
def chg_mid : FuncId := 21
theorem chg_mex : ∃ fn, Try.prog.funcs[chg_mid]? = some fn ∧ (fn.name == "runtime.NumGoroutine") = false ∧ fn.body.isNone = false := ⟨Try.f21, by kernel_rfl, by kernel_rfl, by kernel_rfl⟩
noncomputable def chg_O (n : Nat) : Oracle E := orac [(16, pairs_W), (17, nboth_W), (18, nget_W), (26, nsame_W 12)] [] [(21, chg_M n)] []
noncomputable def chg_H : Hint E := Hint.mk [(0, [0, 1, 6, 7, 36, 37, 38])] [] []
noncomputable def chg_C0 (v0 : Nat) (v1 : List UInt8) (v2 : List (List UInt8)) (v3 : Int) (v4 : Int) (v5 : List (List UInt8)) (v6 : Int) (v7 : List UInt8) (v8 : List (List UInt8)) (v9 : List Node) (v10 : Int) (v11 : List UInt8) (v12 : List (List UInt8)) (v13 : List Node) : ASt E := ASt.mk 72 [(0, .row .str v0 0), (1, .d (.str v1)), (6, .ptr 1 0), (7, .ptr 2 0), (36, .d (.slice .str v2)), (37, .d (.int .i64 v3)), (38, .d (.int .i64 v4))] [(0, .row .str v5), (1, .box [.d (.int .i64 v6), .d (.str v7), .d (.slice .str v8), .d (.slice .api_Node v9)]), (2, .box [.d (.int .i64 v10), .d (.str v11), .d (.slice .str v12), .d (.slice .api_Node v13)])] 3
noncomputable def chg_t (_n : Nat) (G : Nat → ASt E → Option (TL E)) (x0 : List (List UInt8)) (x1 : List UInt8) (x2 : Node) (x3 : Node) : Option (TL E) :=
  bif (!(pairsV (⟨x2.kind, x2.text, x2.keys, x2.kids⟩ : Node) (⟨x3.kind, x3.text, x3.keys, x3.kids⟩ : Node))) then (bif ((okS 12) (⟨x2.kind, x2.text, x2.keys, x2.kids⟩ : Node) (⟨x3.kind, x3.text, x3.keys, x3.kids⟩ : Node)) then (bif (!((same 12) (⟨x2.kind, x2.text, x2.keys, x2.kids⟩ : Node) (⟨x3.kind, x3.text, x3.keys, x3.kids⟩ : Node))) then (bif (decide ((x0.length + ([x1] : List (List UInt8)).length) * 16 ≤ maxBytes)) then some ⟨.str, (x0 ++ ([x1] : List (List UInt8)))⟩ else none) else some ⟨.str, x0⟩) else none) else (bif (!(x1 == ([] : List UInt8))) then (bif (decide (x1.length + ([10] : List UInt8).length ≤ maxStr)) then (bif (ln5 x2.keys x3.keys) then G 0 (chg_C0 x0.length (x1 ++ ([10] : List UInt8)) (both x2.keys x3.keys) ((both x2.keys x3.keys).length : Int) (0 : Int) x0 x2.kind x2.text x2.keys x2.kids x3.kind x3.text x3.keys x3.kids) else none) else none) else (bif (ln5 x2.keys x3.keys) then G 0 (chg_C0 x0.length x1 (both x2.keys x3.keys) ((both x2.keys x3.keys).length : Int) (0 : Int) x0 x2.kind x2.text x2.keys x2.kids x3.kind x3.text x3.keys x3.kids) else none))
theorem chg_e (n : Nat) (G : Nat → ASt E → Option (TL E)) (x0 : List (List UInt8)) (x1 : List UInt8) (x2 : Node) (x3 : Node) : runEM (chg_O n) chg_H G Try.f21 .str x0 [⟨.str, x1⟩, ⟨.api_Node, x2⟩, ⟨.api_Node, x3⟩] = chg_t n G x0 x1 x2 x3 := by kernel_rfl
noncomputable def chg_t0 (n : Nat) (G : Nat → ASt E → Option (TL E)) (_v0 : Nat) (v1 : List UInt8) (v2 : List (List UInt8)) (v3 : Int) (v4 : Int) (v5 : List (List UInt8)) (v6 : Int) (v7 : List UInt8) (v8 : List (List UInt8)) (v9 : List Node) (v10 : Int) (v11 : List UInt8) (v12 : List (List UInt8)) (v13 : List Node) : Option (TL E) :=
  bif (decide (v4 < v3)) then (bif (decide ((0 : Int) ≤ v4) && decide (v4 < (v2.length : Int))) then (bif ((fun n _ => fit n) (⟨v6, v7, v8, v9⟩ : Node) (List.getD v2 (Int.toNat v4) (dflt .str))) then (bif ((fun n _ => fit n) (⟨v10, v11, v12, v13⟩ : Node) (List.getD v2 (Int.toNat v4) (dflt .str))) then (bif (!((getB (⟨v6, v7, v8, v9⟩ : Node) (List.getD v2 (Int.toNat v4) (dflt .str))) == (getB (⟨v10, v11, v12, v13⟩ : Node) (List.getD v2 (Int.toNat v4) (dflt .str))))) then (bif (decide (v1.length + (List.getD v2 (Int.toNat v4) (dflt .str)).length ≤ maxStr)) then (bif (decide ((v5.length + ([(v1 ++ (List.getD v2 (Int.toNat v4) (dflt .str)))] : List (List UInt8)).length) * 16 ≤ maxBytes)) then G 0 (chg_C0 (v5.length + ([(v1 ++ (List.getD v2 (Int.toNat v4) (dflt .str)))] : List (List UInt8)).length) v1 v2 v3 (w64 (v4 + (1 : Int))) (v5 ++ ([(v1 ++ (List.getD v2 (Int.toNat v4) (dflt .str)))] : List (List UInt8))) v6 v7 v8 v9 v10 v11 v12 v13) else none) else none) else (bif (decide (v1.length + (List.getD v2 (Int.toNat v4) (dflt .str)).length ≤ maxStr)) then (bif ((okC n) v5 (v1 ++ (List.getD v2 (Int.toNat v4) (dflt .str))) (⟨(getV (⟨v6, v7, v8, v9⟩ : Node) (List.getD v2 (Int.toNat v4) (dflt .str))).kind, (getV (⟨v6, v7, v8, v9⟩ : Node) (List.getD v2 (Int.toNat v4) (dflt .str))).text, (getV (⟨v6, v7, v8, v9⟩ : Node) (List.getD v2 (Int.toNat v4) (dflt .str))).keys, (getV (⟨v6, v7, v8, v9⟩ : Node) (List.getD v2 (Int.toNat v4) (dflt .str))).kids⟩ : Node) (⟨(getV (⟨v10, v11, v12, v13⟩ : Node) (List.getD v2 (Int.toNat v4) (dflt .str))).kind, (getV (⟨v10, v11, v12, v13⟩ : Node) (List.getD v2 (Int.toNat v4) (dflt .str))).text, (getV (⟨v10, v11, v12, v13⟩ : Node) (List.getD v2 (Int.toNat v4) (dflt .str))).keys, (getV (⟨v10, v11, v12, v13⟩ : Node) (List.getD v2 (Int.toNat v4) (dflt .str))).kids⟩ : Node)) then G 0 (chg_C0 (((chgV n) v5 (v1 ++ (List.getD v2 (Int.toNat v4) (dflt .str))) (⟨(getV (⟨v6, v7, v8, v9⟩ : Node) (List.getD v2 (Int.toNat v4) (dflt .str))).kind, (getV (⟨v6, v7, v8, v9⟩ : Node) (List.getD v2 (Int.toNat v4) (dflt .str))).text, (getV (⟨v6, v7, v8, v9⟩ : Node) (List.getD v2 (Int.toNat v4) (dflt .str))).keys, (getV (⟨v6, v7, v8, v9⟩ : Node) (List.getD v2 (Int.toNat v4) (dflt .str))).kids⟩ : Node) (⟨(getV (⟨v10, v11, v12, v13⟩ : Node) (List.getD v2 (Int.toNat v4) (dflt .str))).kind, (getV (⟨v10, v11, v12, v13⟩ : Node) (List.getD v2 (Int.toNat v4) (dflt .str))).text, (getV (⟨v10, v11, v12, v13⟩ : Node) (List.getD v2 (Int.toNat v4) (dflt .str))).keys, (getV (⟨v10, v11, v12, v13⟩ : Node) (List.getD v2 (Int.toNat v4) (dflt .str))).kids⟩ : Node)).length) v1 v2 v3 (w64 (v4 + (1 : Int))) ((chgV n) v5 (v1 ++ (List.getD v2 (Int.toNat v4) (dflt .str))) (⟨(getV (⟨v6, v7, v8, v9⟩ : Node) (List.getD v2 (Int.toNat v4) (dflt .str))).kind, (getV (⟨v6, v7, v8, v9⟩ : Node) (List.getD v2 (Int.toNat v4) (dflt .str))).text, (getV (⟨v6, v7, v8, v9⟩ : Node) (List.getD v2 (Int.toNat v4) (dflt .str))).keys, (getV (⟨v6, v7, v8, v9⟩ : Node) (List.getD v2 (Int.toNat v4) (dflt .str))).kids⟩ : Node) (⟨(getV (⟨v10, v11, v12, v13⟩ : Node) (List.getD v2 (Int.toNat v4) (dflt .str))).kind, (getV (⟨v10, v11, v12, v13⟩ : Node) (List.getD v2 (Int.toNat v4) (dflt .str))).text, (getV (⟨v10, v11, v12, v13⟩ : Node) (List.getD v2 (Int.toNat v4) (dflt .str))).keys, (getV (⟨v10, v11, v12, v13⟩ : Node) (List.getD v2 (Int.toNat v4) (dflt .str))).kids⟩ : Node)) v6 v7 v8 v9 v10 v11 v12 v13) else none) else none)) else none) else none) else none) else some ⟨.str, v5⟩
theorem chg_l0 (n : Nat) (G : Nat → ASt E → Option (TL E)) (v0 : Nat) (v1 : List UInt8) (v2 : List (List UInt8)) (v3 : Int) (v4 : Int) (v5 : List (List UInt8)) (v6 : Int) (v7 : List UInt8) (v8 : List (List UInt8)) (v9 : List Node) (v10 : Int) (v11 : List UInt8) (v12 : List (List UInt8)) (v13 : List Node) : runLM (chg_O n) chg_H G Try.f21 0 (chg_C0 v0 v1 v2 v3 v4 v5 v6 v7 v8 v9 v10 v11 v12 v13) = chg_t0 n G v0 v1 v2 v3 v4 v5 v6 v7 v8 v9 v10 v11 v12 v13 := by kernel_rfl
theorem chg_f : Try.prog.funcs[21]? = some Try.f21 := by kernel_rfl
theorem chg_n : (Try.f21.name == "runtime.NumGoroutine") = false := by kernel_rfl
theorem chg_b : Try.f21.body.isNone = false := by kernel_rfl
theorem chg_ex : ∃ fn, Try.prog.funcs[21]? = some fn ∧ (fn.name == "runtime.NumGoroutine") = false ∧ fn.body.isNone = false := ⟨Try.f21, chg_f, chg_n, chg_b⟩
theorem chg_hO (n : Nat) (ih : MutOk E chg_mid (chg_M n)) : OracleOk E (chg_O n) := orac_ok (.cons pairs_ok (.cons nboth_ok (.cons nget_ok (.cons (nsame_ok 12) .nil)))) .nil (.cons ih .nil) .nil
theorem chg_s0 (n : Nat) (ih : MutOk E chg_mid (chg_M n)) {res : TL E} {v0 : Nat} {v1 : List UInt8} {v2 : List (List UInt8)} {v3 : Int} {v4 : Int} {v5 : List (List UInt8)} {v6 : Int} {v7 : List UInt8} {v8 : List (List UInt8)} {v9 : List Node} {v10 : Int} {v11 : List UInt8} {v12 : List (List UInt8)} {v13 : List Node} (h : chg_t0 n (GrM E Try.f21 res) v0 v1 v2 v3 v4 v5 v6 v7 v8 v9 v10 v11 v12 v13 = some res) : EvM E Try.f21 res 0 (chg_C0 v0 v1 v2 v3 v4 v5 v6 v7 v8 v9 v10 v11 v12 v13) := EvM.step (chg_hO n ih) mix ((chg_l0 n _ v0 v1 v2 v3 v4 v5 v6 v7 v8 v9 v10 v11 v12 v13).trans h)
theorem chg_mok_of (n : Nat) (ih : MutOk E chg_mid (chg_M n)) (h : ∀ (x0 : List (List UInt8)) (x1 : List UInt8) (x2 : Node) (x3 : Node), (okC (n + 1)) x0 x1 x2 x3 = true → chg_t n (GrM E Try.f21 ⟨.str, (chgV (n + 1)) x0 x1 x2 x3⟩) x0 x1 x2 x3 = some ⟨.str, (chgV (n + 1)) x0 x1 x2 x3⟩) : MutOk E chg_mid (chg_M (n + 1)) := mut3_ok (chg_hO n ih) mix chg_f chg_n chg_b (fun x0 x1 x2 x3 hk => (chg_e n _ x0 x1 x2 x3).trans (h x0 x1 x2 x3 hk))
theorem chg_loop (n : Nat) (ih : MutOk E chg_mid (chg_M n)) (hn : n + 1 ≤ 12) (a b : Node) (ha : wf 200 (n + 1) a = true) (hb : wf 200 (n + 1) b = true) (p : List UInt8) (hp : p.length ≤ 201 * (12 - n) + 1) (ks : List (List UInt8)) (hks : ks.length ≤ 400)
    (hm : ∀ k ∈ ks, k.length ≤ 200 ∧ (getB a k = true ∨ getB b k = true)) : ∀ (m i v0 : Nat) (out : List (List UInt8)), ks.length - i = m → i ≤ ks.length → (out ++ (ks.drop i).flatMap (stepC (chgL n) p a b)).length ≤ 1000000 →
      EvM E Try.f21 ⟨.str, out ++ (ks.drop i).flatMap (stepC (chgL n) p a b)⟩ 0 (chg_C0 v0 p ks ks.length i out a.kind a.text a.keys a.kids b.kind b.text b.keys b.kids) := by
  have fa := wf_fit ha (by decide)
  have fb := wf_fit hb (by decide)
  intro m
  induction m with
  | zero =>
    intro i v0 out h1 h2 h3
    refine chg_s0 n ih ?_
    simp only [chg_t0, dge (show ks.length ≤ i by omega), cond_false, List.drop_eq_nil_of_le (show ks.length ≤ i by omega), List.flatMap_nil, List.append_nil]
  | succ m ih2 =>
    intro i v0 out h1 h2 h3
    have hi : i < ks.length := by omega
    obtain ⟨hk1, hk2⟩ := hm ks[i] (List.getElem_mem hi)
    have e0 : decide (p.length + ks[i].length ≤ maxStr) = true := dT (by rw [ms]; omega)
    have e3 : w64 ((i : Int) + 1) = ((i + 1 : Nat) : Int) := by rw [w64_id (by omega) (by omega)]; omega
    refine chg_s0 n ih ?_
    rw [← List.getElem_cons_drop hi, List.flatMap_cons, ← List.append_assoc] at h3 ⊢
    simp only [chg_t0, dlt hi, d0, gd ks _ i hi, Bool.and_self, cond_true, node_eta, fa, fb, e0, e3]
    generalize ks[i] = k at *
    have hl : (out ++ stepC (chgL n) p a b k).length ≤ 1000000 := by rw [List.length_append] at h3; omega
    have fin : ∀ (v : Nat) (o : List (List UInt8)), o = out ++ stepC (chgL n) p a b k → GrM E Try.f21 ⟨.str, out ++ stepC (chgL n) p a b k ++ (ks.drop (i + 1)).flatMap (stepC (chgL n) p a b)⟩ 0 (chg_C0 v p ks ks.length ((i + 1 : Nat) : Int) o a.kind a.text a.keys a.kids b.kind b.text b.keys b.kids) = some ⟨.str, out ++ stepC (chgL n) p a b k ++ (ks.drop (i + 1)).flatMap (stepC (chgL n) p a b)⟩ := by
      rintro v o rfl
      exact GrM_of (ih2 (i + 1) v _ (by omega) (by omega) h3)
    cases hg : getB a k == getB b k with
    | false =>
      have es : stepC (chgL n) p a b k = [p ++ k] := by simp only [stepC, hg, cond_false]
      have e1 : decide ((out.length + [p ++ k].length) * 16 ≤ maxBytes) = true := dT (by rw [mb]; rw [es, List.length_append] at hl; omega)
      simp only [Bool.not_false, cond_true, e1]
      exact fin _ _ (by rw [es])
    | true =>
      have es : stepC (chgL n) p a b k = chgL n (p ++ k) (getV a k) (getV b k) := by simp only [stepC, hg, cond_true]
      have hg' : getB a k = getB b k := by simpa using hg
      have ga : getB a k = true := hk2.elim id (fun h => hg'.trans h)
      have gb : getB b k = true := hg' ▸ ga
      have e1 : okC n out (p ++ k) (getV a k) (getV b k) = true := okC_iff.2 ⟨⟨⟨⟨by omega, wf_get ha ga⟩, wf_get hb gb⟩, by rw [List.length_append]; omega⟩, by rw [← es]; exact hl⟩
      simp only [Bool.not_true, cond_false, e1, cond_true]
      exact fin _ _ (by rw [es]; rfl)
theorem chg_mok (n : Nat) : MutOk E chg_mid (chg_M n) := by
  induction n with
  | zero => exact mut3_bot chg_mex fun x y z u => by simp [okC, wf]
  | succ n ih =>
    refine chg_mok_of n ih fun out p a b hk => ?_
    obtain ⟨⟨⟨⟨hn, hwa⟩, hwb⟩, hp⟩, hlen⟩ := okC_iff.1 hk
    have ha := wf_iff.1 hwa
    have hb := wf_iff.1 hwb
    have h5 : ln5 a.keys b.keys = true := by simp only [ln5, decide_eq_true_eq]; omega
    have hok : okS 12 a b = true := by simp only [okS, wf_dp12 (by decide) hn hwa, wf_dp12 (by decide) hn hwb, Bool.and_self]
    simp only [chgV] at hlen ⊢
    simp only [chg_t, node_eta, h5, hok, cond_true]
    cases hpr : pairsV a b with
    | false =>
      simp only [Bool.not_false, cond_true]
      unfold chgL at hlen ⊢
      rw [hpr, cond_false] at hlen ⊢
      cases hs : same 12 a b with
      | false =>
        rw [hs, cond_false] at hlen
        have e1 : decide ((out.length + [p].length) * 16 ≤ maxBytes) = true := dT (by rw [mb]; rw [List.length_append] at hlen; omega)
        simp only [Bool.not_false, cond_true, cond_false, e1]
      | true =>
        simp only [Bool.not_true, cond_true, cond_false, List.append_nil]
    | true =>
      simp only [Bool.not_true, cond_false]
      unfold chgL at hlen ⊢
      rw [hpr, cond_true] at hlen ⊢
      have hl := both_len a.keys b.keys
      obtain ⟨k3, k3'⟩ := pairsV_iff.1 hpr
      have hpl := pre_len p
      have main := GrM_of (chg_loop n ih hn a b hwa hwb (pre p) (by omega) (both a.keys b.keys) (by omega) (fun k hk => by
        rcases mem_both hk with h | h
        · exact ⟨ha.2.2.2.2.1 _ h, .inl (getB_of hwa k3 h)⟩
        · exact ⟨hb.2.2.2.2.1 _ h, .inr (getB_of hwb k3' h)⟩) _ 0 out.length out rfl (Nat.zero_le _) hlen)
      rw [List.drop_zero] at main
      cases hz : p == ([] : List UInt8) with
      | false =>
        have e2 : decide (p.length + [(10 : UInt8)].length ≤ maxStr) = true := dT (by rw [ms, List.length_singleton]; omega)
        have ep : pre p = p ++ [10] := by simp only [pre, hz, cond_false]
        simp only [Bool.not_false, cond_true, e2]
        rw [ep] at main ⊢
        exact main
      | true =>
        have ep : pre p = p := by
          have : p = [] := by simpa using hz
          subst this; rfl
        simp only [Bool.not_true, cond_false]
        rw [ep] at main ⊢
        exact main
def okCh (a b : Node) : Bool := okC 12 [] [] a b
def changedV (a b : Node) : List (List UInt8) := chgL 12 [] a b
noncomputable def changed_W : FnW E := fn2 (E := E) .api_Node .api_Node .l_str okCh changedV
def changed_id : FuncId := 10
noncomputable def changed_O : Oracle E := orac [] [] [(21, chg_M 12)] []
noncomputable def changed_H : Hint E := Hint.mk [] [] []
noncomputable def changed_t (_G : Nat → ASt E → Option (List (TV E))) (x0 : Node) (x1 : Node) : Option (List (TV E)) :=
  bif ((okC 12) ([] : List (List UInt8)) ([] : List UInt8) (⟨x0.kind, x0.text, x0.keys, x0.kids⟩ : Node) (⟨x1.kind, x1.text, x1.keys, x1.kids⟩ : Node)) then some [⟨.l_str, ((chgV 12) ([] : List (List UInt8)) ([] : List UInt8) (⟨x0.kind, x0.text, x0.keys, x0.kids⟩ : Node) (⟨x1.kind, x1.text, x1.keys, x1.kids⟩ : Node))⟩] else none
theorem changed_e (G : Nat → ASt E → Option (List (TV E))) (x0 : Node) (x1 : Node) : runE changed_O changed_H G Try.f10 [⟨.api_Node, x0⟩, ⟨.api_Node, x1⟩] = changed_t G x0 x1 := by kernel_rfl
theorem changed_f : Try.prog.funcs[10]? = some Try.f10 := by kernel_rfl
theorem changed_n : (Try.f10.name == "runtime.NumGoroutine") = false := by kernel_rfl
theorem changed_b : Try.f10.body.isNone = false := by kernel_rfl
theorem changed_ex : ∃ fn, Try.prog.funcs[10]? = some fn ∧ (fn.name == "runtime.NumGoroutine") = false ∧ fn.body.isNone = false := ⟨Try.f10, changed_f, changed_n, changed_b⟩
theorem changed_hO : OracleOk E changed_O := orac_ok .nil .nil (.cons (chg_mok 12) .nil) .nil
theorem changed_ok_of (h : ∀ (x0 : Node) (x1 : Node), okCh x0 x1 = true → changed_t (Gr E Try.f10 [⟨.l_str, changedV x0 x1⟩]) x0 x1 = some [⟨.l_str, changedV x0 x1⟩]) : FnOk E changed_id changed_W := fn2_ok changed_hO mix changed_f changed_n changed_b (fun x0 x1 hk => (changed_e _ x0 x1).trans (h x0 x1 hk))
theorem changed_ok : FnOk E changed_id changed_W := changed_ok_of fun a b hk => by
  have hk : okC 12 [] [] a b = true := hk
  simp only [changed_t, node_eta, hk, cond_true]
  rfl
end Go.Proofs.Ytnbohemhgbkdlaa.Bl