/- NormTexts: what the law's function computes. -/
import Derived.Test.YtfoflgciceckoaaGreatDoorT9
import Derived.Test.YtfoflgciceckoaaGreatDoorG18
namespace Go.Proofs.YtfoflgciceckoaaGreatDoor.Rf
open Go Go.RowKit Go.Sort Go.Proofs.YtfoflgciceckoaaGreatDoor.Mir
/-! ### The law's own functions: fields of one text, and commands, asked of both -/
def okFd (n : Node) (k : Int) : Bool := (decide (n.text.length ≤ 1000000) && decide (n.kids.length ≤ 1000000)) && (decide (0 ≤ k) && decide (k ≤ 5))
def fdV (n : Node) (k : Int) : Node := bif k == 5 then wdV n else oneV n k
def fdB (n : Node) (k : Int) : Bool := bif k == 5 then wdB n else oneB n k
def fdE (n : Node) (k : Int) : Int := bif fdB n k then 0 else 10
theorem k6 {k : Int} (h0 : 0 ≤ k) (h5 : k ≤ 5) : k = 0 ∨ k = 1 ∨ k = 2 ∨ k = 3 ∨ k = 4 ∨ k = 5 := by omega
theorem tx_one (f : List UInt8 → Bool) (n : Node) : txV f n = (bif !(txX f n) then n else zn) ∧ txE f n = (bif !(txX f n) then 0 else 10) := by
  unfold txV txE
  cases txX f n <;> exact ⟨rfl, rfl⟩
theorem by_one (n : Node) : byV n = (bif !(byX n) then txtN (ztV (zpV n.text)) else zn) ∧ byE n = (bif !(byX n) then 0 else 10) := by
  unfold byV byE
  cases byX n <;> exact ⟨rfl, rfl⟩
noncomputable def lfield_W : FnW E := fn22 (E := E) .api_Node .int .api_Node .api_Errno okFd fdV fdE
def lfield_id : FuncId := 10
noncomputable def lfield_O : Oracle E := orac [(24, nbytes_W), (25, ncnt_W), (23, ncpus_W), (26, nline_W), (9, nports_W), (22, nrest_W), (27, nwords_W)] [] [] []
noncomputable def lfield_H : Hint E := Hint.mk [] [] [] [] []
noncomputable def lfield_t (_G : Nat → ASt E → Option (List (TV E))) (x0 : Node) (x1 : Int) : Option (List (TV E)) :=
  bif (x1 == (0 : Int)) then (bif (okTf (⟨x0.kind, x0.text, x0.keys, x0.kids⟩ : Node)) then some [⟨.api_Node, (⟨((txV restB) (⟨x0.kind, x0.text, x0.keys, x0.kids⟩ : Node)).kind, ((txV restB) (⟨x0.kind, x0.text, x0.keys, x0.kids⟩ : Node)).text, ((txV restB) (⟨x0.kind, x0.text, x0.keys, x0.kids⟩ : Node)).keys, ((txV restB) (⟨x0.kind, x0.text, x0.keys, x0.kids⟩ : Node)).kids⟩ : Node)⟩, ⟨.api_Errno, ((txE restB) (⟨x0.kind, x0.text, x0.keys, x0.kids⟩ : Node))⟩] else none) else (bif (x1 == (1 : Int)) then (bif (okTf (⟨x0.kind, x0.text, x0.keys, x0.kids⟩ : Node)) then some [⟨.api_Node, (⟨((txV cpu1B) (⟨x0.kind, x0.text, x0.keys, x0.kids⟩ : Node)).kind, ((txV cpu1B) (⟨x0.kind, x0.text, x0.keys, x0.kids⟩ : Node)).text, ((txV cpu1B) (⟨x0.kind, x0.text, x0.keys, x0.kids⟩ : Node)).keys, ((txV cpu1B) (⟨x0.kind, x0.text, x0.keys, x0.kids⟩ : Node)).kids⟩ : Node)⟩, ⟨.api_Errno, ((txE cpu1B) (⟨x0.kind, x0.text, x0.keys, x0.kids⟩ : Node))⟩] else none) else (bif (x1 == (2 : Int)) then (bif (okTf (⟨x0.kind, x0.text, x0.keys, x0.kids⟩ : Node)) then some [⟨.api_Node, (⟨(byV (⟨x0.kind, x0.text, x0.keys, x0.kids⟩ : Node)).kind, (byV (⟨x0.kind, x0.text, x0.keys, x0.kids⟩ : Node)).text, (byV (⟨x0.kind, x0.text, x0.keys, x0.kids⟩ : Node)).keys, (byV (⟨x0.kind, x0.text, x0.keys, x0.kids⟩ : Node)).kids⟩ : Node)⟩, ⟨.api_Errno, (byE (⟨x0.kind, x0.text, x0.keys, x0.kids⟩ : Node))⟩] else none) else (bif (x1 == (3 : Int)) then (bif (okTf (⟨x0.kind, x0.text, x0.keys, x0.kids⟩ : Node)) then some [⟨.api_Node, (⟨((txV cnt1B) (⟨x0.kind, x0.text, x0.keys, x0.kids⟩ : Node)).kind, ((txV cnt1B) (⟨x0.kind, x0.text, x0.keys, x0.kids⟩ : Node)).text, ((txV cnt1B) (⟨x0.kind, x0.text, x0.keys, x0.kids⟩ : Node)).keys, ((txV cnt1B) (⟨x0.kind, x0.text, x0.keys, x0.kids⟩ : Node)).kids⟩ : Node)⟩, ⟨.api_Errno, ((txE cnt1B) (⟨x0.kind, x0.text, x0.keys, x0.kids⟩ : Node))⟩] else none) else (bif (x1 == (4 : Int)) then some [⟨.api_Node, (⟨((txV line1B) (⟨x0.kind, x0.text, x0.keys, x0.kids⟩ : Node)).kind, ((txV line1B) (⟨x0.kind, x0.text, x0.keys, x0.kids⟩ : Node)).text, ((txV line1B) (⟨x0.kind, x0.text, x0.keys, x0.kids⟩ : Node)).keys, ((txV line1B) (⟨x0.kind, x0.text, x0.keys, x0.kids⟩ : Node)).kids⟩ : Node)⟩, ⟨.api_Errno, ((txE line1B) (⟨x0.kind, x0.text, x0.keys, x0.kids⟩ : Node))⟩] else (bif (x1 == (5 : Int)) then (bif (okWd (⟨x0.kind, x0.text, x0.keys, x0.kids⟩ : Node)) then some [⟨.api_Node, (⟨(wdV (⟨x0.kind, x0.text, x0.keys, x0.kids⟩ : Node)).kind, (wdV (⟨x0.kind, x0.text, x0.keys, x0.kids⟩ : Node)).text, (wdV (⟨x0.kind, x0.text, x0.keys, x0.kids⟩ : Node)).keys, (wdV (⟨x0.kind, x0.text, x0.keys, x0.kids⟩ : Node)).kids⟩ : Node)⟩, ⟨.api_Errno, (wdE (⟨x0.kind, x0.text, x0.keys, x0.kids⟩ : Node))⟩] else none) else (bif (x1 == (6 : Int)) then (bif (x1 == (6 : Int)) then none else (bif (x1 == (8 : Int)) then none else (bif (x1 == (9 : Int)) then (bif (okPo (⟨x0.kind, x0.text, x0.keys, x0.kids⟩ : Node)) then some [⟨.api_Node, (⟨(poV (⟨x0.kind, x0.text, x0.keys, x0.kids⟩ : Node)).kind, (poV (⟨x0.kind, x0.text, x0.keys, x0.kids⟩ : Node)).text, (poV (⟨x0.kind, x0.text, x0.keys, x0.kids⟩ : Node)).keys, (poV (⟨x0.kind, x0.text, x0.keys, x0.kids⟩ : Node)).kids⟩ : Node)⟩, ⟨.api_Errno, (poE (⟨x0.kind, x0.text, x0.keys, x0.kids⟩ : Node))⟩] else none) else (bif (x1 == (10 : Int)) then none else (bif (x1 == (11 : Int)) then none else (bif (x1 == (12 : Int)) then none else none)))))) else (bif (x1 == (7 : Int)) then none else (bif (x1 == (8 : Int)) then none else (bif (x1 == (9 : Int)) then (bif (okPo (⟨x0.kind, x0.text, x0.keys, x0.kids⟩ : Node)) then some [⟨.api_Node, (⟨(poV (⟨x0.kind, x0.text, x0.keys, x0.kids⟩ : Node)).kind, (poV (⟨x0.kind, x0.text, x0.keys, x0.kids⟩ : Node)).text, (poV (⟨x0.kind, x0.text, x0.keys, x0.kids⟩ : Node)).keys, (poV (⟨x0.kind, x0.text, x0.keys, x0.kids⟩ : Node)).kids⟩ : Node)⟩, ⟨.api_Errno, (poE (⟨x0.kind, x0.text, x0.keys, x0.kids⟩ : Node))⟩] else none) else (bif (x1 == (10 : Int)) then none else (bif (x1 == (11 : Int)) then none else (bif (x1 == (12 : Int)) then none else none))))))))))))
theorem lfield_e (G : Nat → ASt E → Option (List (TV E))) (x0 : Node) (x1 : Int) : runE lfield_O lfield_H G Tryz.f10 [⟨.api_Node, x0⟩, ⟨.int, x1⟩] = lfield_t G x0 x1 := by kernel_rfl
theorem lfield_f : Tryz.prog.funcs[10]? = some Tryz.f10 := by kernel_rfl
theorem lfield_n : (Tryz.f10.name == "runtime.NumGoroutine") = false := by kernel_rfl
theorem lfield_b : Tryz.f10.body.isNone = false := by kernel_rfl
theorem lfield_ex : ∃ fn, Tryz.prog.funcs[10]? = some fn ∧ (fn.name == "runtime.NumGoroutine") = false ∧ fn.body.isNone = false := ⟨Tryz.f10, lfield_f, lfield_n, lfield_b⟩
theorem lfield_hO : OracleOk E lfield_O := orac_ok (.cons nbytes_ok (.cons ncnt_ok (.cons ncpus_ok (.cons nline_ok (.cons nports_ok (.cons nrest_ok (.cons nwords_ok .nil))))))) .nil .nil .nil
theorem lfield_ok_of (h : ∀ (x0 : Node) (x1 : Int), okFd x0 x1 = true → lfield_t (Gr E Tryz.f10 [⟨.api_Node, fdV x0 x1⟩, ⟨.api_Errno, fdE x0 x1⟩]) x0 x1 = some [⟨.api_Node, fdV x0 x1⟩, ⟨.api_Errno, fdE x0 x1⟩]) : FnOk E lfield_id lfield_W := fn22_ok lfield_hO mix lfield_f lfield_n lfield_b (fun x0 x1 hk => (lfield_e _ x0 x1).trans (h x0 x1 hk))
theorem lfield_ok : FnOk E lfield_id lfield_W := lfield_ok_of fun n k hk => by
  simp only [okFd, Bool.and_eq_true, decide_eq_true_eq] at hk
  obtain ⟨⟨h1, h2⟩, h3, h4⟩ := hk
  have o1 : okTf n = true := decide_eq_true h1
  have o2 : okWd n = true := by simp only [okWd, h1, h2, decide_true, Bool.and_self]
  rcases k6 h3 h4 with rfl | rfl | rfl | rfl | rfl | rfl
  · simp [lfield_t, o1, node_eta, (tx_one restB n).1, (tx_one restB n).2, fdV, fdE, fdB, oneV, oneB]
  · simp [lfield_t, o1, node_eta, (tx_one cpu1B n).1, (tx_one cpu1B n).2, fdV, fdE, fdB, oneV, oneB]
  · simp [lfield_t, o1, node_eta, (by_one n).1, (by_one n).2, fdV, fdE, fdB, oneV, oneB]
  · simp [lfield_t, o1, node_eta, (tx_one cnt1B n).1, (tx_one cnt1B n).2, fdV, fdE, fdB, oneV, oneB]
  · simp [lfield_t, o1, node_eta, (tx_one line1B n).1, (tx_one line1B n).2, fdV, fdE, fdB, oneV, oneB]
  · simp [lfield_t, o2, node_eta, fdV, fdE, fdB, wdE]
noncomputable def rfield_W : FnW E := fn22 (E := E) .api_Node .int .api_Node .bool okFd fdV fdB
def rfield_id : FuncId := 11
noncomputable def rfield_O : Oracle E := orac [(34, q18one_W), (35, q18words_W)] [] [] []
noncomputable def rfield_H : Hint E := Hint.mk [] [] [] [] []
noncomputable def rfield_t (_G : Nat → ASt E → Option (List (TV E))) (x0 : Node) (x1 : Int) : Option (List (TV E)) :=
  bif (decide (x1 < (5 : Int))) then (bif (okOn (⟨x0.kind, x0.text, x0.keys, x0.kids⟩ : Node) x1) then some [⟨.api_Node, (⟨(oneV (⟨x0.kind, x0.text, x0.keys, x0.kids⟩ : Node) x1).kind, (oneV (⟨x0.kind, x0.text, x0.keys, x0.kids⟩ : Node) x1).text, (oneV (⟨x0.kind, x0.text, x0.keys, x0.kids⟩ : Node) x1).keys, (oneV (⟨x0.kind, x0.text, x0.keys, x0.kids⟩ : Node) x1).kids⟩ : Node)⟩, ⟨.bool, (oneB (⟨x0.kind, x0.text, x0.keys, x0.kids⟩ : Node) x1)⟩] else none) else (bif (x1 == (5 : Int)) then (bif (okWd (⟨x0.kind, x0.text, x0.keys, x0.kids⟩ : Node)) then some [⟨.api_Node, (⟨(wdV (⟨x0.kind, x0.text, x0.keys, x0.kids⟩ : Node)).kind, (wdV (⟨x0.kind, x0.text, x0.keys, x0.kids⟩ : Node)).text, (wdV (⟨x0.kind, x0.text, x0.keys, x0.kids⟩ : Node)).keys, (wdV (⟨x0.kind, x0.text, x0.keys, x0.kids⟩ : Node)).kids⟩ : Node)⟩, ⟨.bool, (wdB (⟨x0.kind, x0.text, x0.keys, x0.kids⟩ : Node))⟩] else none) else (bif (bif (x1 == (6 : Int)) then true else (x1 == (7 : Int))) then none else (bif (x1 == (8 : Int)) then none else (bif (x1 == (9 : Int)) then none else (bif (x1 == (10 : Int)) then none else (bif (x1 == (11 : Int)) then none else (bif (x1 == (12 : Int)) then none else none)))))))
theorem rfield_e (G : Nat → ASt E → Option (List (TV E))) (x0 : Node) (x1 : Int) : runE rfield_O rfield_H G Tryz.f11 [⟨.api_Node, x0⟩, ⟨.int, x1⟩] = rfield_t G x0 x1 := by kernel_rfl
theorem rfield_f : Tryz.prog.funcs[11]? = some Tryz.f11 := by kernel_rfl
theorem rfield_n : (Tryz.f11.name == "runtime.NumGoroutine") = false := by kernel_rfl
theorem rfield_b : Tryz.f11.body.isNone = false := by kernel_rfl
theorem rfield_ex : ∃ fn, Tryz.prog.funcs[11]? = some fn ∧ (fn.name == "runtime.NumGoroutine") = false ∧ fn.body.isNone = false := ⟨Tryz.f11, rfield_f, rfield_n, rfield_b⟩
theorem rfield_hO : OracleOk E rfield_O := orac_ok (.cons q18one_ok (.cons q18words_ok .nil)) .nil .nil .nil
theorem rfield_ok_of (h : ∀ (x0 : Node) (x1 : Int), okFd x0 x1 = true → rfield_t (Gr E Tryz.f11 [⟨.api_Node, fdV x0 x1⟩, ⟨.bool, fdB x0 x1⟩]) x0 x1 = some [⟨.api_Node, fdV x0 x1⟩, ⟨.bool, fdB x0 x1⟩]) : FnOk E rfield_id rfield_W := fn22_ok rfield_hO mix rfield_f rfield_n rfield_b (fun x0 x1 hk => (rfield_e _ x0 x1).trans (h x0 x1 hk))
theorem rfield_ok : FnOk E rfield_id rfield_W := rfield_ok_of fun n k hk => by
  simp only [okFd, Bool.and_eq_true, decide_eq_true_eq] at hk
  obtain ⟨⟨h1, h2⟩, h3, h4⟩ := hk
  have o1 : ∀ k, okOn n k = true := fun _ => decide_eq_true h1
  have o2 : okWd n = true := by simp only [okWd, h1, h2, decide_true, Bool.and_self]
  rcases k6 h3 h4 with rfl | rfl | rfl | rfl | rfl | rfl
  · simp [rfield_t, o1, node_eta, fdV, fdB]
  · simp [rfield_t, o1, node_eta, fdV, fdB]
  · simp [rfield_t, o1, node_eta, fdV, fdB]
  · simp [rfield_t, o1, node_eta, fdV, fdB]
  · simp [rfield_t, o1, node_eta, fdV, fdB]
  · simp [rfield_t, o2, node_eta, fdV, fdB]
/-- What a field's question comes to. -/
structure Ask (n : Node) (k : Int) : Prop where
  f : okFd n k = true
  s : okS 12 (fdV n k) (fdV n k) = true
  again : fdB n k = true → okFd (fdV n k) k = true ∧ fdV (fdV n k) k = fdV n k ∧ fdB (fdV n k) k = true
theorem bool_nn {a b : Bool} (h : (!a) = b) : a = !b := by cases a <;> cases b <;> first | rfl | cases h
theorem rowN_wg (l : List (List UInt8)) (h : l.length ≤ 10000) : wg 10000 12 (rowN l) = true :=
  wg_iff.2 ⟨Nat.zero_le _, by show (l.map txtN).length ≤ 10000; rw [List.length_map]; exact h, fun e => absurd e (by show (2 : Int) ≠ 3; decide), fun y hy => by
    obtain ⟨s, _, rfl⟩ := List.mem_map.1 hy
    exact txtN_wg _ _⟩
theorem txs_row : ∀ l : List (List UInt8), txsV (l.map txtN) = some l
  | [] => rfl
  | s :: l => by
    show txsV (txtN s :: l.map txtN) = _
    rw [txsV, txs_row l]; rfl
theorem kind_one {f : List UInt8 → Bool} {n : Node} (h : txX f n = false) : n.kind = 1 := by
  unfold txX at h
  by_cases hk : n.kind = 1
  · exact hk
  · rw [neT hk] at h; cases h
theorem oneB_kind {n : Node} {k : Int} (h : oneB n k = true) : n.kind = 1 := by
  have h := bool_nn h
  by_cases h2 : k = 2
  · subst h2
    have h : byX n = false := h
    unfold byX at h
    by_cases hk : n.kind = 1
    · exact hk
    · rw [neT hk] at h; cases h
  · rw [eqF h2, cond_false] at h
    cases h0 : k == 0 <;> rw [h0] at h
    · cases h1 : k == 1 <;> rw [h1] at h
      · cases h3 : k == 3 <;> rw [h3] at h <;> exact kind_one h
      · exact kind_one h
    · exact kind_one h
theorem kd_of {n : Node} {m : Int} (hm : m ≤ 200) (h : smallV n m = true) : wf 200 12 n = true ∧ kd 12 n = true := by
  have h1 := small_nd_ hm h
  simp only [okNd, Bool.and_eq_true] at h1
  exact h1
theorem ask_one {n : Node} (hn : wf 200 12 n = true) {k : Int} (h0 : 0 ≤ k) (h4 : k ≤ 4) : Ask n k := by
  have w := wf_iff.1 hn
  have hk5 : (k == 5) = false := eqF (by omega)
  have f : okFd n k = true := by
    simp only [okFd, Bool.and_eq_true, decide_eq_true_eq]
    exact ⟨⟨by have := w.2.2.2.1; omega, by have := w.2.1; omega⟩, h0, by omega⟩
  have e1 : fdV n k = oneV n k := by unfold fdV; rw [hk5]; rfl
  have e2 : fdB n k = oneB n k := by unfold fdB; rw [hk5]; rfl
  by_cases h2 : k = 2
  · subst h2
    cases hb : oneB n 2 with
    | false =>
      have : fdV n 2 = zn := by rw [e1]; unfold oneV; rw [hb]; rfl
      exact ⟨f, by rw [this]; exact okS_wg zn_wg12, fun h => by rw [e2, hb] at h; cases h⟩
    | true =>
      have e : fdV n 2 = txtN (ztV (zpV n.text)) := by rw [e1]; unfold oneV; rw [hb]; rfl
      have hx : byX n = false := bool_nn hb
      have hz : zpV n.text ≤ 1125899906842624 := by
        unfold byX at hx
        have hE : zpE n.text = 0 := by
          by_cases h : zpE n.text = 0
          · exact h
          · rw [neT h] at hx; cases hq : n.kind != 1 <;> rw [hq] at hx <;> cases hx
        unfold zpV zpE at *
        unfold zpP at *
        cases hq : zuB (n.text.drop (lsD n.text)) with
        | false => rw [hq] at hE; cases hE
        | true =>
          simp only [Bool.not_true, cond_false]
          obtain ⟨u0, u3⟩ := zu_bd (n.text.drop (lsD n.text))
          have hb := fun P (h : (0 : Int) ≤ 1125899906842624 / P) => (cnt_bd (n.text.take (lsD n.text)) _ h).2
          have hb1 := hb 1 (by decide)
          have hb2 := hb 1024 (by decide)
          have hb3 := hb 1048576 (by decide)
          have hb4 := hb 1073741824 (by decide)
          unfold cntV at hb1 hb2 hb3 hb4
          rcases p2_of u0 u3 with ⟨_, h⟩ | ⟨_, h⟩ | ⟨_, h⟩ | ⟨_, h⟩ <;> rw [h] <;> omega
      have h0 := zp_ge n.text
      have zt := zp_text h0 hz
      have hlen : (ztV (zpV n.text)).length ≤ 22 := by
        unfold ztV
        have hl := textV_len (zpV n.text / 2 ^ (Int.toNat (10 * zlV (zpV n.text))))
        have : (sfx (zlV (zpV n.text))).length ≤ 1 := by
          obtain ⟨u0, u3⟩ := zl_bd (zpV n.text)
          have : zlV (zpV n.text) = 0 ∨ zlV (zpV n.text) = 1 ∨ zlV (zpV n.text) = 2 ∨ zlV (zpV n.text) = 3 := by omega
          rcases this with h | h | h | h <;> rw [h] <;> decide
        cases (bif decide (zpV n.text < 0) then true else decide ((1125899906842624 : Int) < zpV n.text)) with
        | true => exact Nat.zero_le _
        | false => rw [cond_false, List.length_append]; omega
      have hv0 : zpV n.text ≠ 0 := by
        intro h
        unfold byX at hx
        rw [eqT h] at hx
        cases hq : (bif n.kind != 1 then true else zpE n.text != 0) <;> rw [hq] at hx <;> cases hx
      have hB : byX (txtN (ztV (zpV n.text))) = false := by
        unfold byX zpE zpV
        show (bif (bif (1 : Int) != 1 then true else (zpP (ztV (zpV n.text))).2 != 0) then true else (zpP (ztV (zpV n.text))).1 == 0) = false
        rw [zt]
        exact eqF hv0
      refine ⟨f, by rw [e]; exact okS_wg (txtN_wg _ _), fun _ => ?_⟩
      rw [e]
      have hOB : oneB (txtN (ztV (zpV n.text))) 2 = true := by
        show (!(byX (txtN (ztV (zpV n.text))))) = true
        rw [hB]; rfl
      refine ⟨?_, ?_, hOB⟩
      · simp only [okFd, Bool.and_eq_true, decide_eq_true_eq]
        exact ⟨⟨by show (ztV (zpV n.text)).length ≤ 1000000; omega, Nat.zero_le _⟩, by decide, by decide⟩
      · show oneV (txtN (ztV (zpV n.text))) 2 = _
        unfold oneV
        rw [hOB]
        show txtN (ztV (zpV (ztV (zpV n.text)))) = _
        unfold zpV at zt ⊢
        rw [zt]
  · have e3 : fdV n k = bif oneB n k then n else zn := by rw [e1]; unfold oneV; rw [eqF h2]; rfl
    cases hb : oneB n k with
    | false => exact ⟨f, by rw [e3, hb]; exact okS_wg zn_wg12, fun h => by rw [e2, hb] at h; cases h⟩
    | true =>
      have e : fdV n k = n := by rw [e3, hb]; rfl
      exact ⟨f, by rw [e]; exact okS_wg (wg_up (by decide) (wf_wg hn)), fun _ => by rw [e]; exact ⟨f, e, e2.trans hb⟩⟩
theorem ask_words {n : Node} (hn : wf 200 12 n = true) : Ask n 5 := by
  have w := wf_iff.1 hn
  have f : okFd n 5 = true := by
    simp only [okFd, Bool.and_eq_true, decide_eq_true_eq]
    exact ⟨⟨by have := w.2.2.2.1; omega, by have := w.2.1; omega⟩, by decide, by decide⟩
  cases hb : wdB n with
  | false =>
    have e : fdV n 5 = zn := by show wdV n = zn; unfold wdV; rw [hb]; rfl
    exact ⟨f, by rw [e]; exact okS_wg zn_wg12, fun h => absurd (show wdB n = true from h) (by rw [hb]; decide)⟩
  | true =>
    have e : fdV n 5 = rowN (wdL n) := by show wdV n = _; unfold wdV; rw [hb]; rfl
    have hl : (wdL n).length ≤ 32 := by
      unfold wdL
      by_cases h1 : n.kind = 1
      · rw [eqT h1]; exact finV_len _
      · rw [eqF h1, cond_false]
        unfold wdB at hb
        rw [eqF h1, cond_false] at hb
        unfold txsB at hb
        have := txsL_len n
        by_cases h2 : n.kind = 2
        · rw [eqT h2, cond_true, Bool.and_eq_true, decide_eq_true_eq] at hb
          omega
        · rw [eqF h2] at hb; simp at hb
    refine ⟨f, by rw [e]; exact okS_wg (rowN_wg _ (by omega)), fun _ => ?_⟩
    rw [e]
    have hT : txsV (rowN (wdL n)).kids = some (wdL n) := txs_row _
    have hB : wdB (rowN (wdL n)) = true := by
      show (bif (2 : Int) == 1 then _ else txsB (rowN (wdL n))) = true
      show txsB (rowN (wdL n)) = true
      unfold txsB
      rw [hT]
      show (true && (bif (2 : Int) == 2 then decide (((rowN (wdL n)).kids.length : Int) ≤ 32) else false)) = true
      have : (rowN (wdL n)).kids.length = (wdL n).length := by show ((wdL n).map txtN).length = _; rw [List.length_map]
      rw [this]
      show decide (((wdL n).length : Int) ≤ 32) = true
      exact decide_eq_true (by omega)
    refine ⟨?_, ?_, hB⟩
    · simp only [okFd, Bool.and_eq_true, decide_eq_true_eq]
      exact ⟨⟨Nat.zero_le _, by show ((wdL n).map txtN).length ≤ 1000000; rw [List.length_map]; omega⟩, by decide, by decide⟩
    · show wdV (rowN (wdL n)) = _
      unfold wdV
      rw [hB]
      show rowN (txsL (rowN (wdL n))) = _
      unfold txsL
      rw [hT]; rfl
def okAs (n : Node) (k : Int) : Bool := (decide (0 ≤ k) && decide (k ≤ 5)) && smallV n 100
theorem ask_of {n : Node} {k : Int} (hk : okAs n k = true) : Ask n k := by
  simp only [okAs, Bool.and_eq_true, decide_eq_true_eq] at hk
  have g := (kd_of (by decide) hk.2).1
  by_cases h5 : k = 5
  · subst h5; exact ask_words g
  · exact ask_one g hk.1.1 (by omega)
noncomputable def lasked_W : FnW E := fn2 (E := E) .api_Node .int .bool okAs (fun _ _ => true)
def lasked_id : FuncId := 6
noncomputable def lasked_O : Oracle E := orac [(10, lfield_W), (12, rnsame_W 12), (11, rfield_W)] [] [] []
noncomputable def lasked_H : Hint E := Hint.mk [] [] [] [] []
noncomputable def lasked_t (_G : Nat → ASt E → Option (List (TV E))) (x0 : Node) (x1 : Int) : Option (List (TV E)) :=
  bif (okFd (⟨x0.kind, x0.text, x0.keys, x0.kids⟩ : Node) x1) then (bif (okFd (⟨x0.kind, x0.text, x0.keys, x0.kids⟩ : Node) x1) then (bif ((okS 12) (⟨(fdV (⟨x0.kind, x0.text, x0.keys, x0.kids⟩ : Node) x1).kind, (fdV (⟨x0.kind, x0.text, x0.keys, x0.kids⟩ : Node) x1).text, (fdV (⟨x0.kind, x0.text, x0.keys, x0.kids⟩ : Node) x1).keys, (fdV (⟨x0.kind, x0.text, x0.keys, x0.kids⟩ : Node) x1).kids⟩ : Node) (⟨(fdV (⟨x0.kind, x0.text, x0.keys, x0.kids⟩ : Node) x1).kind, (fdV (⟨x0.kind, x0.text, x0.keys, x0.kids⟩ : Node) x1).text, (fdV (⟨x0.kind, x0.text, x0.keys, x0.kids⟩ : Node) x1).keys, (fdV (⟨x0.kind, x0.text, x0.keys, x0.kids⟩ : Node) x1).kids⟩ : Node)) then (bif (bif (bif (!((same 12) (⟨(fdV (⟨x0.kind, x0.text, x0.keys, x0.kids⟩ : Node) x1).kind, (fdV (⟨x0.kind, x0.text, x0.keys, x0.kids⟩ : Node) x1).text, (fdV (⟨x0.kind, x0.text, x0.keys, x0.kids⟩ : Node) x1).keys, (fdV (⟨x0.kind, x0.text, x0.keys, x0.kids⟩ : Node) x1).kids⟩ : Node) (⟨(fdV (⟨x0.kind, x0.text, x0.keys, x0.kids⟩ : Node) x1).kind, (fdV (⟨x0.kind, x0.text, x0.keys, x0.kids⟩ : Node) x1).text, (fdV (⟨x0.kind, x0.text, x0.keys, x0.kids⟩ : Node) x1).keys, (fdV (⟨x0.kind, x0.text, x0.keys, x0.kids⟩ : Node) x1).kids⟩ : Node))) then true else (!(((fdE (⟨x0.kind, x0.text, x0.keys, x0.kids⟩ : Node) x1) == (0 : Int)) == (fdB (⟨x0.kind, x0.text, x0.keys, x0.kids⟩ : Node) x1)))) then true else (bif (!(fdB (⟨x0.kind, x0.text, x0.keys, x0.kids⟩ : Node) x1)) then ((fdE (⟨x0.kind, x0.text, x0.keys, x0.kids⟩ : Node) x1) != (10 : Int)) else false)) then some [⟨.bool, false⟩] else (bif (!(fdB (⟨x0.kind, x0.text, x0.keys, x0.kids⟩ : Node) x1)) then some [⟨.bool, true⟩] else (bif (okFd (⟨(fdV (⟨x0.kind, x0.text, x0.keys, x0.kids⟩ : Node) x1).kind, (fdV (⟨x0.kind, x0.text, x0.keys, x0.kids⟩ : Node) x1).text, (fdV (⟨x0.kind, x0.text, x0.keys, x0.kids⟩ : Node) x1).keys, (fdV (⟨x0.kind, x0.text, x0.keys, x0.kids⟩ : Node) x1).kids⟩ : Node) x1) then (bif (((okS 12) (⟨(fdV (⟨x0.kind, x0.text, x0.keys, x0.kids⟩ : Node) x1).kind, (fdV (⟨x0.kind, x0.text, x0.keys, x0.kids⟩ : Node) x1).text, (fdV (⟨x0.kind, x0.text, x0.keys, x0.kids⟩ : Node) x1).keys, (fdV (⟨x0.kind, x0.text, x0.keys, x0.kids⟩ : Node) x1).kids⟩ : Node) (⟨(fdV (⟨(fdV (⟨x0.kind, x0.text, x0.keys, x0.kids⟩ : Node) x1).kind, (fdV (⟨x0.kind, x0.text, x0.keys, x0.kids⟩ : Node) x1).text, (fdV (⟨x0.kind, x0.text, x0.keys, x0.kids⟩ : Node) x1).keys, (fdV (⟨x0.kind, x0.text, x0.keys, x0.kids⟩ : Node) x1).kids⟩ : Node) x1).kind, (fdV (⟨(fdV (⟨x0.kind, x0.text, x0.keys, x0.kids⟩ : Node) x1).kind, (fdV (⟨x0.kind, x0.text, x0.keys, x0.kids⟩ : Node) x1).text, (fdV (⟨x0.kind, x0.text, x0.keys, x0.kids⟩ : Node) x1).keys, (fdV (⟨x0.kind, x0.text, x0.keys, x0.kids⟩ : Node) x1).kids⟩ : Node) x1).text, (fdV (⟨(fdV (⟨x0.kind, x0.text, x0.keys, x0.kids⟩ : Node) x1).kind, (fdV (⟨x0.kind, x0.text, x0.keys, x0.kids⟩ : Node) x1).text, (fdV (⟨x0.kind, x0.text, x0.keys, x0.kids⟩ : Node) x1).keys, (fdV (⟨x0.kind, x0.text, x0.keys, x0.kids⟩ : Node) x1).kids⟩ : Node) x1).keys, (fdV (⟨(fdV (⟨x0.kind, x0.text, x0.keys, x0.kids⟩ : Node) x1).kind, (fdV (⟨x0.kind, x0.text, x0.keys, x0.kids⟩ : Node) x1).text, (fdV (⟨x0.kind, x0.text, x0.keys, x0.kids⟩ : Node) x1).keys, (fdV (⟨x0.kind, x0.text, x0.keys, x0.kids⟩ : Node) x1).kids⟩ : Node) x1).kids⟩ : Node)) || !((fdE (⟨(fdV (⟨x0.kind, x0.text, x0.keys, x0.kids⟩ : Node) x1).kind, (fdV (⟨x0.kind, x0.text, x0.keys, x0.kids⟩ : Node) x1).text, (fdV (⟨x0.kind, x0.text, x0.keys, x0.kids⟩ : Node) x1).keys, (fdV (⟨x0.kind, x0.text, x0.keys, x0.kids⟩ : Node) x1).kids⟩ : Node) x1) == (0 : Int))) then some [⟨.bool, (bif ((fdE (⟨(fdV (⟨x0.kind, x0.text, x0.keys, x0.kids⟩ : Node) x1).kind, (fdV (⟨x0.kind, x0.text, x0.keys, x0.kids⟩ : Node) x1).text, (fdV (⟨x0.kind, x0.text, x0.keys, x0.kids⟩ : Node) x1).keys, (fdV (⟨x0.kind, x0.text, x0.keys, x0.kids⟩ : Node) x1).kids⟩ : Node) x1) == (0 : Int)) then ((same 12) (⟨(fdV (⟨x0.kind, x0.text, x0.keys, x0.kids⟩ : Node) x1).kind, (fdV (⟨x0.kind, x0.text, x0.keys, x0.kids⟩ : Node) x1).text, (fdV (⟨x0.kind, x0.text, x0.keys, x0.kids⟩ : Node) x1).keys, (fdV (⟨x0.kind, x0.text, x0.keys, x0.kids⟩ : Node) x1).kids⟩ : Node) (⟨(fdV (⟨(fdV (⟨x0.kind, x0.text, x0.keys, x0.kids⟩ : Node) x1).kind, (fdV (⟨x0.kind, x0.text, x0.keys, x0.kids⟩ : Node) x1).text, (fdV (⟨x0.kind, x0.text, x0.keys, x0.kids⟩ : Node) x1).keys, (fdV (⟨x0.kind, x0.text, x0.keys, x0.kids⟩ : Node) x1).kids⟩ : Node) x1).kind, (fdV (⟨(fdV (⟨x0.kind, x0.text, x0.keys, x0.kids⟩ : Node) x1).kind, (fdV (⟨x0.kind, x0.text, x0.keys, x0.kids⟩ : Node) x1).text, (fdV (⟨x0.kind, x0.text, x0.keys, x0.kids⟩ : Node) x1).keys, (fdV (⟨x0.kind, x0.text, x0.keys, x0.kids⟩ : Node) x1).kids⟩ : Node) x1).text, (fdV (⟨(fdV (⟨x0.kind, x0.text, x0.keys, x0.kids⟩ : Node) x1).kind, (fdV (⟨x0.kind, x0.text, x0.keys, x0.kids⟩ : Node) x1).text, (fdV (⟨x0.kind, x0.text, x0.keys, x0.kids⟩ : Node) x1).keys, (fdV (⟨x0.kind, x0.text, x0.keys, x0.kids⟩ : Node) x1).kids⟩ : Node) x1).keys, (fdV (⟨(fdV (⟨x0.kind, x0.text, x0.keys, x0.kids⟩ : Node) x1).kind, (fdV (⟨x0.kind, x0.text, x0.keys, x0.kids⟩ : Node) x1).text, (fdV (⟨x0.kind, x0.text, x0.keys, x0.kids⟩ : Node) x1).keys, (fdV (⟨x0.kind, x0.text, x0.keys, x0.kids⟩ : Node) x1).kids⟩ : Node) x1).kids⟩ : Node)) else false)⟩] else none) else none))) else none) else none) else none
theorem lasked_e (G : Nat → ASt E → Option (List (TV E))) (x0 : Node) (x1 : Int) : runE lasked_O lasked_H G Tryz.f6 [⟨.api_Node, x0⟩, ⟨.int, x1⟩] = lasked_t G x0 x1 := by kernel_rfl
theorem lasked_f : Tryz.prog.funcs[6]? = some Tryz.f6 := by kernel_rfl
theorem lasked_n : (Tryz.f6.name == "runtime.NumGoroutine") = false := by kernel_rfl
theorem lasked_b : Tryz.f6.body.isNone = false := by kernel_rfl
theorem lasked_ex : ∃ fn, Tryz.prog.funcs[6]? = some fn ∧ (fn.name == "runtime.NumGoroutine") = false ∧ fn.body.isNone = false := ⟨Tryz.f6, lasked_f, lasked_n, lasked_b⟩
theorem lasked_hO : OracleOk E lasked_O := orac_ok (.cons lfield_ok (.cons (rnsame_ok 12) (.cons rfield_ok .nil))) .nil .nil .nil
theorem lasked_ok_of (h : ∀ (x0 : Node) (x1 : Int), okAs x0 x1 = true → lasked_t (Gr E Tryz.f6 [⟨.bool, (fun _ _ => true) x0 x1⟩]) x0 x1 = some [⟨.bool, (fun _ _ => true) x0 x1⟩]) : FnOk E lasked_id lasked_W := fn2_ok lasked_hO mix lasked_f lasked_n lasked_b (fun x0 x1 hk => (lasked_e _ x0 x1).trans (h x0 x1 hk))
theorem lasked_ok : FnOk E lasked_id lasked_W := lasked_ok_of fun n k hk => by
  have q := ask_of hk
  have q1 := q.s
  have q2 : same 12 (fdV n k) (fdV n k) = true := same_refl 12 _ (by have := q.s; simp only [okS, Bool.and_eq_true] at this; exact this.1)
  have qe : fdE n k = (bif fdB n k then 0 else 10) := rfl
  simp only [lasked_t, node_eta, q.f, qe, q1, q2, cond_true, Bool.not_true]
  cases hb : fdB n k with
  | false => rfl
  | true =>
    obtain ⟨p1, p2, p3⟩ := q.again hb
    have p4 : fdE (fdV n k) k = 0 := by unfold fdE; rw [p3]; rfl
    simp only [cond_true, cond_false, Bool.not_true, node_eta, p1, p2, p4, q1, q2, Bool.true_or]
    rfl
noncomputable def law_W : FnW E := fn1 (E := E) .api_Node .bool (fun _ => true) (fun _ => true)
def law_id : FuncId := 3
noncomputable def law_O : Oracle E := orac [(6, lasked_W), (5, awake_W), (4, small_W)] [] [] []
noncomputable def law_H : Hint E := Hint.mk [(0, [1, 3])] [] [] [] []
noncomputable def law_C0 (v0 v1 : Int) (v2 : List UInt8) (v3 : List (List UInt8)) (v4 : List Node) : ASt E := ASt.mk 17 [(1, .ptr 0 0), (3, .d (.int .i64 v0))] [(0, .box [.d (.int .i64 v1), .d (.str v2), .d (.slice .str v3), .d (.slice .api_Node v4)])] 1
noncomputable def law_t (G : Nat → ASt E → Option (List (TV E))) (x0 : Node) : Option (List (TV E)) :=
  bif (okSm (⟨x0.kind, x0.text, x0.keys, x0.kids⟩ : Node) (100 : Int)) then (bif (!(smallV (⟨x0.kind, x0.text, x0.keys, x0.kids⟩ : Node) (100 : Int))) then some [⟨.bool, true⟩] else G 0 (law_C0 (0 : Int) x0.kind x0.text x0.keys x0.kids)) else none
theorem law_e (G : Nat → ASt E → Option (List (TV E))) (x0 : Node) : runE law_O law_H G Tryz.f3 [⟨.api_Node, x0⟩] = law_t G x0 := by kernel_rfl
noncomputable def law_t0 (G : Nat → ASt E → Option (List (TV E))) (v0 v1 : Int) (v2 : List UInt8) (v3 : List (List UInt8)) (v4 : List Node) : Option (List (TV E)) :=
  bif (decide (v0 < (6 : Int))) then (bif (okAs (⟨v1, v2, v3, v4⟩ : Node) v0) then (bif (!((fun _ _ => true) (⟨v1, v2, v3, v4⟩ : Node) v0)) then some [⟨.bool, false⟩] else G 0 (law_C0 (w64 (v0 + (1 : Int))) v1 v2 v3 v4)) else none) else some [⟨.bool, true⟩]
theorem law_l0 (G : Nat → ASt E → Option (List (TV E))) (v0 v1 : Int) (v2 : List UInt8) (v3 : List (List UInt8)) (v4 : List Node) : runL law_O law_H G Tryz.f3 0 (law_C0 v0 v1 v2 v3 v4) = law_t0 G v0 v1 v2 v3 v4 := by kernel_rfl
theorem law_f : Tryz.prog.funcs[3]? = some Tryz.f3 := by kernel_rfl
theorem law_n : (Tryz.f3.name == "runtime.NumGoroutine") = false := by kernel_rfl
theorem law_b : Tryz.f3.body.isNone = false := by kernel_rfl
theorem law_ex : ∃ fn, Tryz.prog.funcs[3]? = some fn ∧ (fn.name == "runtime.NumGoroutine") = false ∧ fn.body.isNone = false := ⟨Tryz.f3, law_f, law_n, law_b⟩
theorem law_hO : OracleOk E law_O := orac_ok (.cons lasked_ok (.cons awake_ok (.cons small_ok .nil))) .nil .nil .nil
theorem law_s0 {res : List (TV E)} {v0 v1 : Int} {v2 : List UInt8} {v3 : List (List UInt8)} {v4 : List Node} (h : law_t0 (Gr E Tryz.f3 res) v0 v1 v2 v3 v4 = some res) : Ev E Tryz.f3 res 0 (law_C0 v0 v1 v2 v3 v4) := Ev.step law_hO mix ((law_l0 _ v0 v1 v2 v3 v4).trans h)
theorem law_ok_of (h : ∀ (x0 : Node), law_t (Gr E Tryz.f3 [⟨.bool, (fun _ => true) x0⟩]) x0 = some [⟨.bool, (fun _ => true) x0⟩]) : FnOk E law_id law_W := fn1_ok law_hO mix law_f law_n law_b (fun x0 _ => (law_e _ x0).trans (h x0))
theorem law_0 (n : Node) (hs : smallV n 100 = true) : ∀ (m i : Nat), 6 - i = m → i ≤ 6 → Ev E Tryz.f3 [⟨.bool, true⟩] 0 (law_C0 i n.kind n.text n.keys n.kids) := by
  intro m
  induction m with
  | zero =>
    intro i h1 h2
    refine law_s0 ?_
    simp only [law_t0, dF (show ¬ (i : Int) < 6 by omega), cond_false]
  | succ m ih =>
    intro i h1 h2
    have e1 : w64 ((i : Int) + 1) = ((i + 1 : Nat) : Int) := by rw [w64_id (by omega) (by omega)]; omega
    have ok : okAs n (i : Int) = true := by simp only [okAs, hs, dT (show (0 : Int) ≤ (i : Int) by omega), dT (show (i : Int) ≤ 5 by omega), Bool.and_self]
    refine law_s0 ?_
    simp only [law_t0, dT (show (i : Int) < 6 by omega), cond_true, cond_false, node_eta, ok, e1, Bool.not_true]
    exact Gr_of (ih (i + 1) (by omega) (by omega))
theorem law_ok : FnOk E law_id law_W := law_ok_of fun n => by
  have e0 : okSm n 100 = true := rfl
  simp only [law_t, node_eta, e0, cond_true]
  cases hs : smallV n 100 with
  | false => rfl
  | true => exact Gr_of (law_0 n hs _ 0 rfl (Nat.zero_le _))
end Go.Proofs.YtfoflgciceckoaaGreatDoor.Rf