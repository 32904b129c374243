/- The program's forms of a command, of a share of processors, of an amount of memory. -/
import Derived.Test.YtfoflgciceckoaaGreatDoorT7
import Derived.Test.YtfoflgciceckoaaGreatDoorMirX
namespace Go.Proofs.YtfoflgciceckoaaGreatDoor.Rf
open Go Go.RowKit Go.Sort Go.Proofs.YtfoflgciceckoaaGreatDoor.Mir
/-! ### Package norm: a command; a share of processors; an amount of memory -/
def cpu1B (s : List UInt8) : Bool := bif milE s == 0 then decide ((0 : Int) < milV s) else false
noncomputable def cpu1_W : FnW E := fn1 (E := E) .str .bool okT1 cpu1B
def cpu1_id : FuncId := 59
noncomputable def cpu1_O : Oracle E := orac [(60, dmilli_W)] [] [] []
noncomputable def cpu1_H : Hint E := Hint.mk [] [] [] [] []
noncomputable def cpu1_t (_G : Nat → ASt E → Option (List (TV E))) (x0 : List UInt8) : Option (List (TV E)) :=
  bif (okL1 x0) then some [⟨.bool, (bif ((milE x0) == (0 : Int)) then (decide ((0 : Int) < (milV x0))) else false)⟩] else none
theorem cpu1_e (G : Nat → ASt E → Option (List (TV E))) (x0 : List UInt8) : runE cpu1_O cpu1_H G Tryz.f59 [⟨.str, x0⟩] = cpu1_t G x0 := by kernel_rfl
theorem cpu1_f : Tryz.prog.funcs[59]? = some Tryz.f59 := by kernel_rfl
theorem cpu1_n : (Tryz.f59.name == "runtime.NumGoroutine") = false := by kernel_rfl
theorem cpu1_b : Tryz.f59.body.isNone = false := by kernel_rfl
theorem cpu1_ex : ∃ fn, Tryz.prog.funcs[59]? = some fn ∧ (fn.name == "runtime.NumGoroutine") = false ∧ fn.body.isNone = false := ⟨Tryz.f59, cpu1_f, cpu1_n, cpu1_b⟩
theorem cpu1_hO : OracleOk E cpu1_O := orac_ok (.cons dmilli_ok .nil) .nil .nil .nil
theorem cpu1_ok_of (h : ∀ (x0 : List UInt8), okT1 x0 = true → cpu1_t (Gr E Tryz.f59 [⟨.bool, cpu1B x0⟩]) x0 = some [⟨.bool, cpu1B x0⟩]) : FnOk E cpu1_id cpu1_W := fn1_ok cpu1_hO mix cpu1_f cpu1_n cpu1_b (fun x0 hk => (cpu1_e _ x0).trans (h x0 hk))
theorem cpu1_ok : FnOk E cpu1_id cpu1_W := cpu1_ok_of fun s hk => by
  have ok : okL1 s = true := hk
  simp only [cpu1_t, ok, cond_true]
  rfl
noncomputable def ncpus_W : FnW E := fn12 (E := E) .api_Node .api_Node .api_Errno okTf (txV cpu1B) (txE cpu1B)
def ncpus_id : FuncId := 23
noncomputable def ncpus_O : Oracle E := withI (orac [(59, cpu1_W)] [] [] []) [(20, Tryz.f20), (55, Tryz.f55)]
noncomputable def ncpus_H : Hint E := Hint.mk [] [] [] [] []
noncomputable def ncpus_t (_G : Nat → ASt E → Option (List (TV E))) (x0 : Node) : Option (List (TV E)) :=
  bif ((okT1 x0.text) || !(!(x0.kind != (1 : Int)))) then (bif (bif (x0.kind != (1 : Int)) then true else (!(cpu1B x0.text))) then some [⟨.api_Node, (⟨(0 : Int), ([] : List UInt8), ([] : List (List UInt8)), ([] : List Node)⟩ : Node)⟩, ⟨.api_Errno, (10 : Int)⟩] else some [⟨.api_Node, (⟨x0.kind, x0.text, x0.keys, x0.kids⟩ : Node)⟩, ⟨.api_Errno, (0 : Int)⟩]) else none
theorem ncpus_e (G : Nat → ASt E → Option (List (TV E))) (x0 : Node) : runE ncpus_O ncpus_H G Tryz.f23 [⟨.api_Node, x0⟩] = ncpus_t G x0 := by kernel_rfl
theorem ncpus_f : Tryz.prog.funcs[23]? = some Tryz.f23 := by kernel_rfl
theorem ncpus_n : (Tryz.f23.name == "runtime.NumGoroutine") = false := by kernel_rfl
theorem ncpus_b : Tryz.f23.body.isNone = false := by kernel_rfl
theorem ncpus_ex : ∃ fn, Tryz.prog.funcs[23]? = some fn ∧ (fn.name == "runtime.NumGoroutine") = false ∧ fn.body.isNone = false := ⟨Tryz.f23, ncpus_f, ncpus_n, ncpus_b⟩
theorem ncpus_hO : OracleOk E ncpus_O := withI_ok (orac_ok (.cons cpu1_ok .nil) .nil .nil .nil) mix (.cons (f := 20) (fn := Tryz.f20) (by kernel_rfl) (by kernel_rfl) (by kernel_rfl) (.cons (f := 55) (fn := Tryz.f55) (by kernel_rfl) (by kernel_rfl) (by kernel_rfl) .nil))
theorem ncpus_ok_of (h : ∀ (x0 : Node), okTf x0 = true → ncpus_t (Gr E Tryz.f23 [⟨.api_Node, (txV cpu1B) x0⟩, ⟨.api_Errno, (txE cpu1B) x0⟩]) x0 = some [⟨.api_Node, (txV cpu1B) x0⟩, ⟨.api_Errno, (txE cpu1B) x0⟩]) : FnOk E ncpus_id ncpus_W := fn12_ok ncpus_hO mix ncpus_f ncpus_n ncpus_b (fun x0 hk => (ncpus_e _ x0).trans (h x0 hk))
theorem ncpus_ok : FnOk E ncpus_id ncpus_W := ncpus_ok_of fun n hk => by
  have ok : okT1 n.text = true := hk
  simp only [ncpus_t, ok, Bool.true_or, cond_true, node_eta]
  exact txR
def byX (n : Node) : Bool := bif (bif n.kind != 1 then true else zpE n.text != 0) then true else zpV n.text == 0
def byV (n : Node) : Node := bif byX n then zn else txtN (ztV (zpV n.text))
def byE (n : Node) : Int := bif byX n then 10 else 0
noncomputable def nbytes_W : FnW E := fn12 (E := E) .api_Node .api_Node .api_Errno okTf byV byE
def nbytes_id : FuncId := 24
noncomputable def nbytes_O : Oracle E := withI (orac [(62, ntext_W), (61, zparse_W), (63, ztext_W)] [] [] []) [(20, Tryz.f20)]
noncomputable def nbytes_H : Hint E := Hint.mk [] [] [] [] []
noncomputable def nbytes_t (_G : Nat → ASt E → Option (List (TV E))) (x0 : Node) : Option (List (TV E)) :=
  bif (okL1 x0.text) then (bif (bif (bif (x0.kind != (1 : Int)) then true else ((zpE x0.text) != (0 : Int))) then true else ((zpV x0.text) == (0 : Int))) then some [⟨.api_Node, (⟨(0 : Int), ([] : List UInt8), ([] : List (List UInt8)), ([] : List Node)⟩ : Node)⟩, ⟨.api_Errno, (10 : Int)⟩] else some [⟨.api_Node, (⟨(txt1 (ztV (zpV x0.text))).kind, (txt1 (ztV (zpV x0.text))).text, (txt1 (ztV (zpV x0.text))).keys, (txt1 (ztV (zpV x0.text))).kids⟩ : Node)⟩, ⟨.api_Errno, (0 : Int)⟩]) else none
theorem nbytes_e (G : Nat → ASt E → Option (List (TV E))) (x0 : Node) : runE nbytes_O nbytes_H G Tryz.f24 [⟨.api_Node, x0⟩] = nbytes_t G x0 := by kernel_rfl
theorem nbytes_f : Tryz.prog.funcs[24]? = some Tryz.f24 := by kernel_rfl
theorem nbytes_n : (Tryz.f24.name == "runtime.NumGoroutine") = false := by kernel_rfl
theorem nbytes_b : Tryz.f24.body.isNone = false := by kernel_rfl
theorem nbytes_ex : ∃ fn, Tryz.prog.funcs[24]? = some fn ∧ (fn.name == "runtime.NumGoroutine") = false ∧ fn.body.isNone = false := ⟨Tryz.f24, nbytes_f, nbytes_n, nbytes_b⟩
theorem nbytes_hO : OracleOk E nbytes_O := withI_ok (orac_ok (.cons ntext_ok (.cons zparse_ok (.cons ztext_ok .nil))) .nil .nil .nil) mix (.cons (f := 20) (fn := Tryz.f20) (by kernel_rfl) (by kernel_rfl) (by kernel_rfl) .nil)
theorem nbytes_ok_of (h : ∀ (x0 : Node), okTf x0 = true → nbytes_t (Gr E Tryz.f24 [⟨.api_Node, byV x0⟩, ⟨.api_Errno, byE x0⟩]) x0 = some [⟨.api_Node, byV x0⟩, ⟨.api_Errno, byE x0⟩]) : FnOk E nbytes_id nbytes_W := fn12_ok nbytes_hO mix nbytes_f nbytes_n nbytes_b (fun x0 hk => (nbytes_e _ x0).trans (h x0 hk))
theorem nbytes_ok : FnOk E nbytes_id nbytes_W := nbytes_ok_of fun n hk => by
  have ok : okL1 n.text = true := hk
  simp only [nbytes_t, ok, cond_true]
  unfold byV byE
  change (bif byX n then _ else _) = _
  cases byX n <;> rfl
def okRow (l : List (List UInt8)) : Bool := decide (l.length ≤ 1000000)
def rowN (l : List (List UInt8)) : Node := ⟨2, [], [], l.map txtN⟩
noncomputable def nrow_W : FnW E := fn1 (E := E) .l_str .api_Node okRow rowN
def nrow_id : FuncId := 68
noncomputable def nrow_O : Oracle E := orac [(62, ntext_W)] [] [] []
noncomputable def nrow_H : Hint E := Hint.mk [(0, [2, 3, 7, 8, 9])] [] [(0, [(3, some 3, true, .api_Node)])] [] []
noncomputable def nrow_C0 (v0 : List (List UInt8)) (v1 v2 v3 : Int) (v4 : List UInt8) (v5 : Int) (v6 : List UInt8) (v7 : List Node) : ASt E := ASt.mk 22 [(2, .ptr 0 0), (3, .ptr 1 0), (7, .d (.slice .str v0)), (8, .d (.int .i64 v1)), (9, .d (.int .i64 v2))] [(0, .box [.d (.int .i64 v3), .d (.str v4), .d (.raw (.slice none 0 0)), .d (.raw (.slice none 0 0))]), (1, .box [.d (.int .i64 v5), .d (.str v6), .d (.raw (.slice none 0 0)), .grow .api_Node v7 2]), (2, .tail true)] 3
noncomputable def nrow_t (G : Nat → ASt E → Option (List (TV E))) (x0 : List (List UInt8)) : Option (List (TV E)) :=
  G 0 (nrow_C0 x0 (x0.length : Int) (0 : Int) (0 : Int) ([] : List UInt8) (2 : Int) ([] : List UInt8) ([] : List Node))
theorem nrow_e (G : Nat → ASt E → Option (List (TV E))) (x0 : List (List UInt8)) : runE nrow_O nrow_H G Tryz.f68 [⟨.l_str, x0⟩] = nrow_t G x0 := by kernel_rfl
noncomputable def nrow_t0 (G : Nat → ASt E → Option (List (TV E))) (v0 : List (List UInt8)) (v1 v2 v3 : Int) (v4 : List UInt8) (v5 : Int) (v6 : List UInt8) (v7 : List Node) : Option (List (TV E)) :=
  bif (decide (v2 < v1)) then (bif (decide ((0 : Int) ≤ v2) && decide (v2 < (v0.length : Int))) then (bif (decide ((v7.length + ([(txt1 (List.getD v0 (Int.toNat v2) (dflt .str)))] : List Node).length) * 72 ≤ maxBytes)) then G 0 (nrow_C0 v0 v1 (w64 (v2 + (1 : Int))) v3 v4 v5 v6 (v7 ++ ([(txt1 (List.getD v0 (Int.toNat v2) (dflt .str)))] : List Node))) else none) else none) else some [⟨.api_Node, (⟨v5, v6, ([] : List (List UInt8)), v7⟩ : Node)⟩]
theorem nrow_l0 (G : Nat → ASt E → Option (List (TV E))) (v0 : List (List UInt8)) (v1 v2 v3 : Int) (v4 : List UInt8) (v5 : Int) (v6 : List UInt8) (v7 : List Node) : runL nrow_O nrow_H G Tryz.f68 0 (nrow_C0 v0 v1 v2 v3 v4 v5 v6 v7) = nrow_t0 G v0 v1 v2 v3 v4 v5 v6 v7 := by kernel_rfl
theorem nrow_f : Tryz.prog.funcs[68]? = some Tryz.f68 := by kernel_rfl
theorem nrow_n : (Tryz.f68.name == "runtime.NumGoroutine") = false := by kernel_rfl
theorem nrow_b : Tryz.f68.body.isNone = false := by kernel_rfl
theorem nrow_ex : ∃ fn, Tryz.prog.funcs[68]? = some fn ∧ (fn.name == "runtime.NumGoroutine") = false ∧ fn.body.isNone = false := ⟨Tryz.f68, nrow_f, nrow_n, nrow_b⟩
theorem nrow_hO : OracleOk E nrow_O := orac_ok (.cons ntext_ok .nil) .nil .nil .nil
theorem nrow_s0 {res : List (TV E)} {v0 : List (List UInt8)} {v1 v2 v3 : Int} {v4 : List UInt8} {v5 : Int} {v6 : List UInt8} {v7 : List Node} (h : nrow_t0 (Gr E Tryz.f68 res) v0 v1 v2 v3 v4 v5 v6 v7 = some res) : Ev E Tryz.f68 res 0 (nrow_C0 v0 v1 v2 v3 v4 v5 v6 v7) := Ev.step nrow_hO mix ((nrow_l0 _ v0 v1 v2 v3 v4 v5 v6 v7).trans h)
theorem nrow_ok_of (h : ∀ (x0 : List (List UInt8)), okRow x0 = true → nrow_t (Gr E Tryz.f68 [⟨.api_Node, rowN x0⟩]) x0 = some [⟨.api_Node, rowN x0⟩]) : FnOk E nrow_id nrow_W := fn1_ok nrow_hO mix nrow_f nrow_n nrow_b (fun x0 hk => (nrow_e _ x0).trans (h x0 hk))
theorem nrow_0 (l : List (List UInt8)) (hl : l.length ≤ 1000000) (a : Int) (b : List UInt8) : ∀ (m i : Nat) (out : List Node), l.length - i = m → i ≤ l.length → out.length = i →
    Ev E Tryz.f68 [⟨.api_Node, (⟨2, [], [], out ++ (l.drop i).map txtN⟩ : Node)⟩] 0 (nrow_C0 l l.length i a b 2 [] out) := by
  intro m
  induction m with
  | zero =>
    intro i out h1 h2 h3
    refine nrow_s0 ?_
    simp only [nrow_t0, dge (show l.length ≤ i by omega), cond_false, List.drop_eq_nil_of_le (show l.length ≤ i by omega), List.map_nil, List.append_nil]
  | succ m ih =>
    intro i out h1 h2 h3
    have hi : i < l.length := by omega
    have e1 : w64 ((i : Int) + 1) = ((i + 1 : Nat) : Int) := by rw [w64_id (by omega) (by omega)]; omega
    refine nrow_s0 ?_
    simp only [nrow_t0, dlt hi, d0, Bool.and_self, cond_true, e1, gd l _ i hi]
    rw [mbT (show (out.length + [txt1 l[i]].length) * 72 ≤ 140737488355328 by rw [List.length_singleton]; omega), cond_true]
    have := Gr_of (ih (i + 1) (out ++ [txt1 l[i]]) (by omega) (by omega) (by rw [List.length_append, List.length_singleton]; omega))
    rw [List.append_assoc] at this
    rw [← List.getElem_cons_drop hi]
    exact this
theorem nrow_ok : FnOk E nrow_id nrow_W := nrow_ok_of fun l hk => by
  have := nrow_0 l (of_decide_eq_true hk) 0 [] _ 0 [] rfl (Nat.zero_le _) rfl
  rw [List.nil_append, List.drop_zero] at this
  exact Gr_of this
def wdB (n : Node) : Bool := bif n.kind == 1 then splE n.text == 0 else txsB n
def wdL (n : Node) : List (List UInt8) := bif n.kind == 1 then splV n.text else txsL n
def wdV (n : Node) : Node := bif wdB n then rowN (wdL n) else zn
def wdE (n : Node) : Int := bif wdB n then 0 else 10
def okWd (n : Node) : Bool := decide (n.text.length ≤ 1000000) && decide (n.kids.length ≤ 1000000)
noncomputable def nwords_W : FnW E := fn12 (E := E) .api_Node .api_Node .api_Errno okWd wdV wdE
def nwords_id : FuncId := 27
noncomputable def nwords_O : Oracle E := withI (orac [(68, nrow_W), (66, ntexts_W), (67, wsplit_W)] [] [] []) [(20, Tryz.f20)]
noncomputable def nwords_H : Hint E := Hint.mk [] [] [] [] []
noncomputable def nwords_t (_G : Nat → ASt E → Option (List (TV E))) (x0 : Node) : Option (List (TV E)) :=
  bif (okTx (⟨x0.kind, x0.text, x0.keys, x0.kids⟩ : Node)) then (bif (x0.kind == (1 : Int)) then (bif (okL1 x0.text) then (bif (!((splE x0.text) == (0 : Int))) then some [⟨.api_Node, (⟨(0 : Int), ([] : List UInt8), ([] : List (List UInt8)), ([] : List Node)⟩ : Node)⟩, ⟨.api_Errno, (10 : Int)⟩] else (bif (okRow (splV x0.text)) then some [⟨.api_Node, (⟨(rowN (splV x0.text)).kind, (rowN (splV x0.text)).text, (rowN (splV x0.text)).keys, (rowN (splV x0.text)).kids⟩ : Node)⟩, ⟨.api_Errno, (0 : Int)⟩] else none)) else none) else (bif (!(txsB (⟨x0.kind, x0.text, x0.keys, x0.kids⟩ : Node))) then some [⟨.api_Node, (⟨(0 : Int), ([] : List UInt8), ([] : List (List UInt8)), ([] : List Node)⟩ : Node)⟩, ⟨.api_Errno, (10 : Int)⟩] else (bif (okRow (txsL (⟨x0.kind, x0.text, x0.keys, x0.kids⟩ : Node))) then some [⟨.api_Node, (⟨(rowN (txsL (⟨x0.kind, x0.text, x0.keys, x0.kids⟩ : Node))).kind, (rowN (txsL (⟨x0.kind, x0.text, x0.keys, x0.kids⟩ : Node))).text, (rowN (txsL (⟨x0.kind, x0.text, x0.keys, x0.kids⟩ : Node))).keys, (rowN (txsL (⟨x0.kind, x0.text, x0.keys, x0.kids⟩ : Node))).kids⟩ : Node)⟩, ⟨.api_Errno, (0 : Int)⟩] else none))) else none
theorem nwords_e (G : Nat → ASt E → Option (List (TV E))) (x0 : Node) : runE nwords_O nwords_H G Tryz.f27 [⟨.api_Node, x0⟩] = nwords_t G x0 := by kernel_rfl
theorem nwords_f : Tryz.prog.funcs[27]? = some Tryz.f27 := by kernel_rfl
theorem nwords_n : (Tryz.f27.name == "runtime.NumGoroutine") = false := by kernel_rfl
theorem nwords_b : Tryz.f27.body.isNone = false := by kernel_rfl
theorem nwords_ex : ∃ fn, Tryz.prog.funcs[27]? = some fn ∧ (fn.name == "runtime.NumGoroutine") = false ∧ fn.body.isNone = false := ⟨Tryz.f27, nwords_f, nwords_n, nwords_b⟩
theorem nwords_hO : OracleOk E nwords_O := withI_ok (orac_ok (.cons nrow_ok (.cons ntexts_ok (.cons wsplit_ok .nil))) .nil .nil .nil) mix (.cons (f := 20) (fn := Tryz.f20) (by kernel_rfl) (by kernel_rfl) (by kernel_rfl) .nil)
theorem nwords_ok_of (h : ∀ (x0 : Node), okWd x0 = true → nwords_t (Gr E Tryz.f27 [⟨.api_Node, wdV x0⟩, ⟨.api_Errno, wdE x0⟩]) x0 = some [⟨.api_Node, wdV x0⟩, ⟨.api_Errno, wdE x0⟩]) : FnOk E nwords_id nwords_W := fn12_ok nwords_hO mix nwords_f nwords_n nwords_b (fun x0 hk => (nwords_e _ x0).trans (h x0 hk))
theorem nwords_ok : FnOk E nwords_id nwords_W := nwords_ok_of fun n hk => by
  simp only [okWd, Bool.and_eq_true, decide_eq_true_eq] at hk
  have o1 : okTx n = true := decide_eq_true hk.2
  have o2 : okL1 n.text = true := okL1_iff.2 hk.1
  have o3 : okRow (splV n.text) = true := decide_eq_true (Nat.le_trans (finV_len _) (by decide))
  have o4 : okRow (txsL n) = true := decide_eq_true (Nat.le_trans (txsL_len n) hk.2)
  simp only [nwords_t, node_eta, o1, o2, o3, o4, cond_true, Bool.true_or]
  unfold wdV wdE wdB wdL
  cases n.kind == 1 with
  | true =>
    simp only [cond_true]
    cases splE n.text == 0 <;> rfl
  | false =>
    simp only [cond_false]
    cases txsB n <;> rfl
end Go.Proofs.YtfoflgciceckoaaGreatDoor.Rf