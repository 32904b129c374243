/- The reference's fields (18), by the Mirror: fields of a map, ports, mounts. -/
import Derived.Test.YtoelhlikomifjaaGreatR12
namespace Go.Proofs.YtoelhlikomifjaaGreat.Rf
open Go Go.RowKit Go.Sort Go.Proofs.YtoelhlikomifjaaGreat.Mir
/-! ### The reference's fields of a map, ports, mounts (18) -/
def okOn (n : Node) (l : List (List UInt8)) : Bool := ln6 n.keys && ln6 l
def onlPr (n : Node) (_ : List (List UInt8)) (p : Bool) : Prop := p = true → n.kind = 3
noncomputable def r18only_O : Oracle E := orac [(63, rin_W)] [] [] []
noncomputable def r18only_H : Hint E := Hint.mk [(0, [1, 2, 5])] [] [] [] []
noncomputable def r18only_C0 (v0 : List (List UInt8)) (v1 : Int) (v2 : Int) (v3 : List UInt8) (v4 : List (List UInt8)) (v5 : List Node) : ASt E := ASt.mk 24 [(1, .d (.slice .str v0)), (2, .ptr 0 0), (5, .d (.int .i64 v1))] [(0, .box [.d (.int .i64 v2), .d (.str v3), .d (.slice .str v4), .d (.slice .api_Node v5)])] 1
noncomputable def r18only_t (G : Nat → ASt E → Option (List (TV E))) (x0 : Node) (x1 : List (List UInt8)) : Option (List (TV E)) :=
  bif (x0.kind != (3 : Int)) then some [⟨.bool, false⟩] else G 0 (r18only_C0 x1 (0 : Int) x0.kind x0.text x0.keys x0.kids)
theorem r18only_e (G : Nat → ASt E → Option (List (TV E))) (x0 : Node) (x1 : List (List UInt8)) : runE r18only_O r18only_H G Tryz.f68 [⟨.api_Node, x0⟩, ⟨.l_str, x1⟩] = r18only_t G x0 x1 := by kernel_rfl
noncomputable def r18only_t0 (G : Nat → ASt E → Option (List (TV E))) (v0 : List (List UInt8)) (v1 : Int) (v2 : Int) (v3 : List UInt8) (v4 : List (List UInt8)) (v5 : List Node) : Option (List (TV E)) :=
  bif (decide (v1 < (v4.length : Int))) then (bif (decide ((0 : Int) ≤ v1) && decide (v1 < (v4.length : Int))) then (bif ((fun l _ => ln6 l) v0 (List.getD v4 (Int.toNat v1) (dflt .str))) then (bif (!(inV v0 (List.getD v4 (Int.toNat v1) (dflt .str)))) then some [⟨.bool, false⟩] else G 0 (r18only_C0 v0 (w64 (v1 + (1 : Int))) v2 v3 v4 v5)) else none) else none) else some [⟨.bool, true⟩]
theorem r18only_l0 (G : Nat → ASt E → Option (List (TV E))) (v0 : List (List UInt8)) (v1 : Int) (v2 : Int) (v3 : List UInt8) (v4 : List (List UInt8)) (v5 : List Node) : runL r18only_O r18only_H G Tryz.f68 0 (r18only_C0 v0 v1 v2 v3 v4 v5) = r18only_t0 G v0 v1 v2 v3 v4 v5 := by kernel_rfl
theorem r18only_f : Tryz.prog.funcs[68]? = some Tryz.f68 := by kernel_rfl
theorem r18only_n : (Tryz.f68.name == "runtime.NumGoroutine") = false := by kernel_rfl
theorem r18only_b : Tryz.f68.body.isNone = false := by kernel_rfl
theorem r18only_ex : ∃ fn, Tryz.prog.funcs[68]? = some fn ∧ (fn.name == "runtime.NumGoroutine") = false ∧ fn.body.isNone = false := ⟨Tryz.f68, r18only_f, r18only_n, r18only_b⟩
theorem r18only_hO : OracleOk E r18only_O := orac_ok (.cons rin_ok .nil) .nil .nil .nil
theorem r18only_s0 {res : List (TV E)} {v0 : List (List UInt8)} {v1 : Int} {v2 : Int} {v3 : List UInt8} {v4 : List (List UInt8)} {v5 : List Node} (h : r18only_t0 (Gr E Tryz.f68 res) v0 v1 v2 v3 v4 v5 = some res) : Ev E Tryz.f68 res 0 (r18only_C0 v0 v1 v2 v3 v4 v5) := Ev.step r18only_hO mix ((r18only_l0 _ v0 v1 v2 v3 v4 v5).trans h)
def r18only_any (x0 : Node) (x1 : List (List UInt8)) (p : Bool) : Prop := r18only_t (Gr E Tryz.f68 [⟨.bool, p⟩]) x0 x1 = some [⟨.bool, p⟩] ∧ onlPr x0 x1 p
noncomputable def r18only_p (x0 : Node) (x1 : List (List UInt8)) : Bool := @Classical.epsilon _ ⟨(dflt .bool)⟩ (r18only_any x0 x1)
noncomputable def r18only_r0 (x0 : Node) (x1 : List (List UInt8)) : Bool := (r18only_p x0 x1)
theorem r18only_spec (x0 : Node) (x1 : List (List UInt8)) (h : ∃ p, r18only_any x0 x1 p) : r18only_any x0 x1 (r18only_p x0 x1) := Classical.epsilon_spec h
noncomputable def r18only_W : FnW E := fn2 (E := E) .api_Node .l_str .bool okOn r18only_r0
def r18only_id : FuncId := 68
theorem r18only_ok_of (h : ∀ (x0 : Node) (x1 : List (List UInt8)), okOn x0 x1 = true → r18only_t (Gr E Tryz.f68 [⟨.bool, r18only_r0 x0 x1⟩]) x0 x1 = some [⟨.bool, r18only_r0 x0 x1⟩]) : FnOk E r18only_id r18only_W := fn2_ok r18only_hO mix r18only_f r18only_n r18only_b (fun x0 x1 hk => (r18only_e _ x0 x1).trans (h x0 x1 hk))
theorem r18only_0 (l : List (List UInt8)) (hl : ln6 l = true) (ks : List (List UInt8)) (hk : ks.length ≤ 1000000) (u : Int) (hu : u = 3) (t : List UInt8) (vs : List Node) : ∀ (m i : Nat), ks.length - i = m → i ≤ ks.length → 
    ∃ p : Bool, (p = true → u = 3) ∧ Ev E Tryz.f68 [⟨.bool, p⟩] 0 (r18only_C0 l i u t ks vs) := by
  intro m
  induction m with
  | zero =>
    intro i  h1 h2
    refine anyS (fun _ h => r18only_s0 h) ?_
    simp only [r18only_t0, dge (show ks.length ≤ i by omega), cond_false, List.drop_eq_nil_of_le (show ks.length ≤ i by omega)]
    exact ⟨_, fun _ => hu, rfl⟩
  | succ m ih2 =>
    intro i  h1 h2
    have hi : i < ks.length := by omega
    have e3 : w64 ((i : Int) + 1) = ((i + 1 : Nat) : Int) := by rw [w64_id (by omega) (by omega)]; omega
    refine anyS (fun _ h => r18only_s0 h) ?_
    simp only [r18only_t0, dlt hi, d0, gd ks _ i hi, e3, Bool.and_self, Bool.true_or, cond_true, hl]
    cases inV l ks[i] with
    | false => exact ⟨_, fun _ => hu, rfl⟩
    | true => exact anyS (fun _ h => Gr_of h) (ih2 (i + 1) (by omega) (by omega))
theorem r18only_tot (n : Node) (l : List (List UInt8)) (hk : okOn n l = true) : ∃ p, r18only_any n l p := by
  simp only [okOn, Bool.and_eq_true] at hk
  have flip : (∃ p, onlPr n l p ∧ r18only_t (Gr E Tryz.f68 [⟨.bool, p⟩]) n l = some [⟨.bool, p⟩]) → ∃ p, r18only_any n l p := fun ⟨p, h1, h2⟩ => ⟨p, h2, h1⟩
  refine flip ?_
  simp only [r18only_t]
  by_cases h3 : n.kind = 3
  · rw [neF h3]
    exact anyS (fun _ h => Gr_of h) (r18only_0 l hk.2 n.keys (ln6_iff.1 hk.1) n.kind h3 n.text n.kids _ 0 rfl (Nat.zero_le _))
  · rw [neT h3]
    exact ⟨false, (fun h => by cases h), rfl⟩
theorem r18only_ok : FnOk E r18only_id r18only_W := r18only_ok_of fun n l hk => (r18only_spec n l (r18only_tot n l hk)).1
theorem r18only_pr {n : Node} {l : List (List UInt8)} (hk : okOn n l = true) (h : r18only_r0 n l = true) : n.kind = 3 := (r18only_spec n l (r18only_tot n l hk)).2 h
def fldV (n : Node) (k or_ : List UInt8) : List UInt8 := bif !(getB n k) then or_ else (getV n k).text
def fldB (n : Node) (k _ : List UInt8) : Bool := bif !(getB n k) then true else (getV n k).kind == 1
def okFl (n : Node) (_ _ : List UInt8) : Bool := fit n
noncomputable def r18field_W : FnW E := fn32 (E := E) .api_Node .str .str .str .bool okFl fldV fldB
def r18field_id : FuncId := 69
noncomputable def r18field_O : Oracle E := orac [(31, rget_W)] [] [] []
noncomputable def r18field_H : Hint E := Hint.mk [] [] [] [] []
noncomputable def r18field_t (_G : Nat → ASt E → Option (List (TV E))) (x0 : Node) (x1 : List UInt8) (x2 : List UInt8) : Option (List (TV E)) :=
  bif ((fun n _ => fit n) (⟨x0.kind, x0.text, x0.keys, x0.kids⟩ : Node) x1) then (bif (!(getB (⟨x0.kind, x0.text, x0.keys, x0.kids⟩ : Node) x1)) then some [⟨.str, x2⟩, ⟨.bool, true⟩] else some [⟨.str, (getV (⟨x0.kind, x0.text, x0.keys, x0.kids⟩ : Node) x1).text⟩, ⟨.bool, ((getV (⟨x0.kind, x0.text, x0.keys, x0.kids⟩ : Node) x1).kind == (1 : Int))⟩]) else none
theorem r18field_e (G : Nat → ASt E → Option (List (TV E))) (x0 : Node) (x1 : List UInt8) (x2 : List UInt8) : runE r18field_O r18field_H G Tryz.f69 [⟨.api_Node, x0⟩, ⟨.str, x1⟩, ⟨.str, x2⟩] = r18field_t G x0 x1 x2 := by kernel_rfl
theorem r18field_f : Tryz.prog.funcs[69]? = some Tryz.f69 := by kernel_rfl
theorem r18field_n : (Tryz.f69.name == "runtime.NumGoroutine") = false := by kernel_rfl
theorem r18field_b : Tryz.f69.body.isNone = false := by kernel_rfl
theorem r18field_ex : ∃ fn, Tryz.prog.funcs[69]? = some fn ∧ (fn.name == "runtime.NumGoroutine") = false ∧ fn.body.isNone = false := ⟨Tryz.f69, r18field_f, r18field_n, r18field_b⟩
theorem r18field_hO : OracleOk E r18field_O := orac_ok (.cons rget_ok .nil) .nil .nil .nil
theorem r18field_ok_of (h : ∀ (x0 : Node) (x1 : List UInt8) (x2 : List UInt8), okFl x0 x1 x2 = true → r18field_t (Gr E Tryz.f69 [⟨.str, fldV x0 x1 x2⟩, ⟨.bool, fldB x0 x1 x2⟩]) x0 x1 x2 = some [⟨.str, fldV x0 x1 x2⟩, ⟨.bool, fldB x0 x1 x2⟩]) : FnOk E r18field_id r18field_W := fn32_ok r18field_hO mix r18field_f r18field_n r18field_b (fun x0 x1 x2 hk => (r18field_e _ x0 x1 x2).trans (h x0 x1 x2 hk))
theorem r18field_ok : FnOk E r18field_id r18field_W := r18field_ok_of fun n k o hk => by
  have hk : fit n = true := hk
  simp only [r18field_t, node_eta, hk, cond_true, fldV, fldB]
  cases getB n k <;> rfl
def truB (n : Node) (k o : List UInt8) : Bool := bif fldB n k o then (bif fldV n k o == [116, 114, 117, 101] then true else fldV n k o == [102, 97, 108, 115, 101]) else false
noncomputable def r18truth_W : FnW E := fn32 (E := E) .api_Node .str .str .str .bool okFl fldV truB
def r18truth_id : FuncId := 70
noncomputable def r18truth_O : Oracle E := orac [(69, r18field_W)] [] [] []
noncomputable def r18truth_H : Hint E := Hint.mk [] [] [] [] []
noncomputable def r18truth_t (_G : Nat → ASt E → Option (List (TV E))) (x0 : Node) (x1 : List UInt8) (x2 : List UInt8) : Option (List (TV E)) :=
  bif (okFl (⟨x0.kind, x0.text, x0.keys, x0.kids⟩ : Node) x1 x2) then some [⟨.str, (fldV (⟨x0.kind, x0.text, x0.keys, x0.kids⟩ : Node) x1 x2)⟩, ⟨.bool, (bif (fldB (⟨x0.kind, x0.text, x0.keys, x0.kids⟩ : Node) x1 x2) then (bif ((fldV (⟨x0.kind, x0.text, x0.keys, x0.kids⟩ : Node) x1 x2) == ([116, 114, 117, 101] : List UInt8)) then true else ((fldV (⟨x0.kind, x0.text, x0.keys, x0.kids⟩ : Node) x1 x2) == ([102, 97, 108, 115, 101] : List UInt8))) else false)⟩] else none
theorem r18truth_e (G : Nat → ASt E → Option (List (TV E))) (x0 : Node) (x1 : List UInt8) (x2 : List UInt8) : runE r18truth_O r18truth_H G Tryz.f70 [⟨.api_Node, x0⟩, ⟨.str, x1⟩, ⟨.str, x2⟩] = r18truth_t G x0 x1 x2 := by kernel_rfl
theorem r18truth_f : Tryz.prog.funcs[70]? = some Tryz.f70 := by kernel_rfl
theorem r18truth_n : (Tryz.f70.name == "runtime.NumGoroutine") = false := by kernel_rfl
theorem r18truth_b : Tryz.f70.body.isNone = false := by kernel_rfl
theorem r18truth_ex : ∃ fn, Tryz.prog.funcs[70]? = some fn ∧ (fn.name == "runtime.NumGoroutine") = false ∧ fn.body.isNone = false := ⟨Tryz.f70, r18truth_f, r18truth_n, r18truth_b⟩
theorem r18truth_hO : OracleOk E r18truth_O := orac_ok (.cons r18field_ok .nil) .nil .nil .nil
theorem r18truth_ok_of (h : ∀ (x0 : Node) (x1 : List UInt8) (x2 : List UInt8), okFl x0 x1 x2 = true → r18truth_t (Gr E Tryz.f70 [⟨.str, fldV x0 x1 x2⟩, ⟨.bool, truB x0 x1 x2⟩]) x0 x1 x2 = some [⟨.str, fldV x0 x1 x2⟩, ⟨.bool, truB x0 x1 x2⟩]) : FnOk E r18truth_id r18truth_W := fn32_ok r18truth_hO mix r18truth_f r18truth_n r18truth_b (fun x0 x1 x2 hk => (r18truth_e _ x0 x1 x2).trans (h x0 x1 x2 hk))
theorem r18truth_ok : FnOk E r18truth_id r18truth_W := r18truth_ok_of fun n k o hk => by
  simp only [r18truth_t, node_eta, hk, cond_true]
  rfl
theorem okN_fit {n : Node} (h : okN n = true) : fit n = true := wf_fit (okN_wf h) (by decide)
theorem okN_fl {n : Node} (h : okN n = true) (k o : List UInt8) : okFl n k o = true := okN_fit h
theorem okN_text {n : Node} (h : okN n = true) : n.text.length ≤ 200 := (wf_iff.1 (okN_wf h)).2.2.2.1
theorem okN_only {n : Node} (h : okN n = true) (l : List (List UInt8)) (hl : ln6 l = true) : okOn n l = true := by
  have := wf_iff.1 (okN_wf h)
  simp only [okOn, Bool.and_eq_true]
  exact ⟨ln6_iff.2 (by omega), hl⟩
theorem okN_o2 {n : Node} (h : okN n = true) (a b : List UInt8) : okOn n [a, b] = true := okN_only h _ rfl
theorem okN_o3 {n : Node} (h : okN n = true) (a b c : List UInt8) : okOn n [a, b, c] = true := okN_only h _ rfl
theorem okN_o4 {n : Node} (h : okN n = true) (a b c d : List UInt8) : okOn n [a, b, c, d] = true := okN_only h _ rfl
theorem okN_o5 {n : Node} (h : okN n = true) (a b c d e : List UInt8) : okOn n [a, b, c, d, e] = true := okN_only h _ rfl
theorem fldV_len {n : Node} (h : okN n = true) (k o : List UInt8) (B : Nat) (ho : o.length ≤ B) (hB : 200 ≤ B) : (fldV n k o).length ≤ B := by
  unfold fldV
  cases getB n k with
  | false => exact ho
  | true => exact Nat.le_trans (okN_text (okN_get h)) hB
def okNm (n : Node) (_ : List UInt8) : Bool := okN n
def numPr (_ : Node) (_ : List UInt8) (p : Int × Bool) : Prop := 0 ≤ p.1 ∧ p.1 ≤ 65536
noncomputable def r18number_O : Oracle E := orac [(60, rcount_W), (31, rget_W), (69, r18field_W)] [] [] []
noncomputable def r18number_H : Hint E := Hint.mk [] [] [] [] []
noncomputable def r18number_t (_G : Nat → ASt E → Option (List (TV E))) (x0 : Node) (x1 : List UInt8) : Option (List (TV E)) :=
  bif ((fun n _ => fit n) (⟨x0.kind, x0.text, x0.keys, x0.kids⟩ : Node) x1) then (bif (!(getB (⟨x0.kind, x0.text, x0.keys, x0.kids⟩ : Node) x1)) then some [⟨.int, (0 : Int)⟩, ⟨.bool, true⟩] else (bif (okFl (⟨x0.kind, x0.text, x0.keys, x0.kids⟩ : Node) x1 ([] : List UInt8)) then (bif (okW (fldV (⟨x0.kind, x0.text, x0.keys, x0.kids⟩ : Node) x1 ([] : List UInt8)) (65536 : Int)) then some [⟨.int, (cntV (fldV (⟨x0.kind, x0.text, x0.keys, x0.kids⟩ : Node) x1 ([] : List UInt8)) (65536 : Int))⟩, ⟨.bool, (bif (bif (fldB (⟨x0.kind, x0.text, x0.keys, x0.kids⟩ : Node) x1 ([] : List UInt8)) then ((cntE (fldV (⟨x0.kind, x0.text, x0.keys, x0.kids⟩ : Node) x1 ([] : List UInt8)) (65536 : Int)) == (0 : Int)) else false) then (decide ((0 : Int) < (cntV (fldV (⟨x0.kind, x0.text, x0.keys, x0.kids⟩ : Node) x1 ([] : List UInt8)) (65536 : Int)))) else false)⟩] else none) else none)) else none
theorem r18number_e (G : Nat → ASt E → Option (List (TV E))) (x0 : Node) (x1 : List UInt8) : runE r18number_O r18number_H G Tryz.f73 [⟨.api_Node, x0⟩, ⟨.str, x1⟩] = r18number_t G x0 x1 := by kernel_rfl
theorem r18number_f : Tryz.prog.funcs[73]? = some Tryz.f73 := by kernel_rfl
theorem r18number_n : (Tryz.f73.name == "runtime.NumGoroutine") = false := by kernel_rfl
theorem r18number_b : Tryz.f73.body.isNone = false := by kernel_rfl
theorem r18number_ex : ∃ fn, Tryz.prog.funcs[73]? = some fn ∧ (fn.name == "runtime.NumGoroutine") = false ∧ fn.body.isNone = false := ⟨Tryz.f73, r18number_f, r18number_n, r18number_b⟩
theorem r18number_hO : OracleOk E r18number_O := orac_ok (.cons rcount_ok (.cons rget_ok (.cons r18field_ok .nil))) .nil .nil .nil
def r18number_any (x0 : Node) (x1 : List UInt8) (p : Int × Bool) : Prop := r18number_t (Gr E Tryz.f73 [⟨.int, p.1⟩, ⟨.bool, p.2⟩]) x0 x1 = some [⟨.int, p.1⟩, ⟨.bool, p.2⟩] ∧ numPr x0 x1 p
noncomputable def r18number_p (x0 : Node) (x1 : List UInt8) : Int × Bool := @Classical.epsilon _ ⟨(dflt .int, dflt .bool)⟩ (r18number_any x0 x1)
noncomputable def r18number_r0 (x0 : Node) (x1 : List UInt8) : Int := (r18number_p x0 x1).1
noncomputable def r18number_r1 (x0 : Node) (x1 : List UInt8) : Bool := (r18number_p x0 x1).2
theorem r18number_spec (x0 : Node) (x1 : List UInt8) (h : ∃ p, r18number_any x0 x1 p) : r18number_any x0 x1 (r18number_p x0 x1) := Classical.epsilon_spec h
noncomputable def r18number_W : FnW E := fn22 (E := E) .api_Node .str .int .bool okNm r18number_r0 r18number_r1
def r18number_id : FuncId := 73
theorem r18number_ok_of (h : ∀ (x0 : Node) (x1 : List UInt8), okNm x0 x1 = true → r18number_t (Gr E Tryz.f73 [⟨.int, r18number_r0 x0 x1⟩, ⟨.bool, r18number_r1 x0 x1⟩]) x0 x1 = some [⟨.int, r18number_r0 x0 x1⟩, ⟨.bool, r18number_r1 x0 x1⟩]) : FnOk E r18number_id r18number_W := fn22_ok r18number_hO mix r18number_f r18number_n r18number_b (fun x0 x1 hk => (r18number_e _ x0 x1).trans (h x0 x1 hk))
theorem r18number_tot (n : Node) (k : List UInt8) (hn : okN n = true) : ∃ p, r18number_any n k p := by
  have flip : (∃ p, numPr n k p ∧ r18number_t (Gr E Tryz.f73 [⟨.int, p.1⟩, ⟨.bool, p.2⟩]) n k = some [⟨.int, p.1⟩, ⟨.bool, p.2⟩]) → ∃ p, r18number_any n k p := fun ⟨p, h1, h2⟩ => ⟨p, h2, h1⟩
  refine flip ?_
  have hl := fldV_len hn k [] 200 (by simp) (by decide)
  have o1 : okW (fldV n k []) 65536 = true := okW_iff.2 ⟨⟨by omega, by decide⟩, by decide⟩
  have hc := cnt_bd (fldV n k []) 65536 (by decide)
  simp only [r18number_t, node_eta, okN_fit hn, cond_true, okN_fl hn, o1]
  cases getB n k with
  | false => exact ⟨(0, true), ⟨by decide, by decide⟩, rfl⟩
  | true => exact ⟨(cntV (fldV n k []) 65536, _), hc, rfl⟩
theorem r18number_ok : FnOk E r18number_id r18number_W := r18number_ok_of fun n k hk => (r18number_spec n k (r18number_tot n k hk)).1
theorem r18number_pr {n : Node} (k : List UInt8) (hk : okN n = true) : 0 ≤ r18number_r0 n k ∧ r18number_r0 n k ≤ 65536 := (r18number_spec n k (r18number_tot n k hk)).2
noncomputable def r18port_O : Oracle E := orac [(93, rpparse_W), (94, rptext_W), (69, r18field_W), (73, r18number_W), (68, r18only_W)] [] [] []
noncomputable def r18port_H : Hint E := Hint.mk [] [] [] [] []
noncomputable def r18port_t (_G : Nat → ASt E → Option (List (TV E))) (x0 : Node) : Option (List (TV E)) :=
  bif (x0.kind == (1 : Int)) then (bif (okL1 x0.text) then (bif ((rpparse_r1 x0.text) != (0 : Int)) then some [⟨.str, ([] : List UInt8)⟩] else (bif (okP (rpparse_r0 x0.text)) then some [⟨.str, (rptext_r0 (rpparse_r0 x0.text))⟩] else none)) else none) else (bif (okOn (⟨x0.kind, x0.text, x0.keys, x0.kids⟩ : Node) ([([116, 97, 114, 103, 101, 116] : List UInt8), ([112, 117, 98, 108, 105, 115, 104, 101, 100] : List UInt8), ([104, 111, 115, 116, 95, 105, 112] : List UInt8), ([112, 114, 111, 116, 111, 99, 111, 108] : List UInt8)] : List (List UInt8))) then (bif (!(r18only_r0 (⟨x0.kind, x0.text, x0.keys, x0.kids⟩ : Node) ([([116, 97, 114, 103, 101, 116] : List UInt8), ([112, 117, 98, 108, 105, 115, 104, 101, 100] : List UInt8), ([104, 111, 115, 116, 95, 105, 112] : List UInt8), ([112, 114, 111, 116, 111, 99, 111, 108] : List UInt8)] : List (List UInt8)))) then some [⟨.str, ([] : List UInt8)⟩] else (bif (okNm (⟨x0.kind, x0.text, x0.keys, x0.kids⟩ : Node) ([116, 97, 114, 103, 101, 116] : List UInt8)) then (bif (okNm (⟨x0.kind, x0.text, x0.keys, x0.kids⟩ : Node) ([112, 117, 98, 108, 105, 115, 104, 101, 100] : List UInt8)) then (bif (okFl (⟨x0.kind, x0.text, x0.keys, x0.kids⟩ : Node) ([104, 111, 115, 116, 95, 105, 112] : List UInt8) ([] : List UInt8)) then (bif (okFl (⟨x0.kind, x0.text, x0.keys, x0.kids⟩ : Node) ([112, 114, 111, 116, 111, 99, 111, 108] : List UInt8) ([116, 99, 112] : List UInt8)) then (bif (bif (bif (bif (!(r18number_r1 (⟨x0.kind, x0.text, x0.keys, x0.kids⟩ : Node) ([116, 97, 114, 103, 101, 116] : List UInt8))) then true else (!(r18number_r1 (⟨x0.kind, x0.text, x0.keys, x0.kids⟩ : Node) ([112, 117, 98, 108, 105, 115, 104, 101, 100] : List UInt8)))) then true else (!(fldB (⟨x0.kind, x0.text, x0.keys, x0.kids⟩ : Node) ([104, 111, 115, 116, 95, 105, 112] : List UInt8) ([] : List UInt8)))) then true else (!(fldB (⟨x0.kind, x0.text, x0.keys, x0.kids⟩ : Node) ([112, 114, 111, 116, 111, 99, 111, 108] : List UInt8) ([116, 99, 112] : List UInt8)))) then some [⟨.str, ([] : List UInt8)⟩] else (bif (okP (⟨(fldV (⟨x0.kind, x0.text, x0.keys, x0.kids⟩ : Node) ([104, 111, 115, 116, 95, 105, 112] : List UInt8) ([] : List UInt8)), (r18number_r0 (⟨x0.kind, x0.text, x0.keys, x0.kids⟩ : Node) ([112, 117, 98, 108, 105, 115, 104, 101, 100] : List UInt8)), (r18number_r0 (⟨x0.kind, x0.text, x0.keys, x0.kids⟩ : Node) ([116, 97, 114, 103, 101, 116] : List UInt8)), (fldV (⟨x0.kind, x0.text, x0.keys, x0.kids⟩ : Node) ([112, 114, 111, 116, 111, 99, 111, 108] : List UInt8) ([116, 99, 112] : List UInt8))⟩ : Port)) then some [⟨.str, (rptext_r0 (⟨(fldV (⟨x0.kind, x0.text, x0.keys, x0.kids⟩ : Node) ([104, 111, 115, 116, 95, 105, 112] : List UInt8) ([] : List UInt8)), (r18number_r0 (⟨x0.kind, x0.text, x0.keys, x0.kids⟩ : Node) ([112, 117, 98, 108, 105, 115, 104, 101, 100] : List UInt8)), (r18number_r0 (⟨x0.kind, x0.text, x0.keys, x0.kids⟩ : Node) ([116, 97, 114, 103, 101, 116] : List UInt8)), (fldV (⟨x0.kind, x0.text, x0.keys, x0.kids⟩ : Node) ([112, 114, 111, 116, 111, 99, 111, 108] : List UInt8) ([116, 99, 112] : List UInt8))⟩ : Port))⟩] else none)) else none) else none) else none) else none)) else none)
theorem r18port_e (G : Nat → ASt E → Option (List (TV E))) (x0 : Node) : runE r18port_O r18port_H G Tryz.f64 [⟨.api_Node, x0⟩] = r18port_t G x0 := by kernel_rfl
theorem r18port_f : Tryz.prog.funcs[64]? = some Tryz.f64 := by kernel_rfl
theorem r18port_n : (Tryz.f64.name == "runtime.NumGoroutine") = false := by kernel_rfl
theorem r18port_b : Tryz.f64.body.isNone = false := by kernel_rfl
theorem r18port_ex : ∃ fn, Tryz.prog.funcs[64]? = some fn ∧ (fn.name == "runtime.NumGoroutine") = false ∧ fn.body.isNone = false := ⟨Tryz.f64, r18port_f, r18port_n, r18port_b⟩
theorem r18port_hO : OracleOk E r18port_O := orac_ok (.cons rpparse_ok (.cons rptext_ok (.cons r18field_ok (.cons r18number_ok (.cons r18only_ok .nil))))) .nil .nil .nil
def r18port_any (x0 : Node) (p : (List UInt8)) : Prop := r18port_t (Gr E Tryz.f64 [⟨.str, p⟩]) x0 = some [⟨.str, p⟩]
noncomputable def r18port_p (x0 : Node) : (List UInt8) := @Classical.epsilon _ ⟨(dflt .str)⟩ (r18port_any x0)
noncomputable def r18port_r0 (x0 : Node) : List UInt8 := (r18port_p x0)
theorem r18port_spec (x0 : Node) (h : ∃ p, r18port_any x0 p) : r18port_any x0 (r18port_p x0) := Classical.epsilon_spec h
noncomputable def r18port_W : FnW E := fn1 (E := E) .api_Node .str okN r18port_r0
def r18port_id : FuncId := 64
theorem r18port_ok_of (h : ∀ (x0 : Node), okN x0 = true → r18port_t (Gr E Tryz.f64 [⟨.str, r18port_r0 x0⟩]) x0 = some [⟨.str, r18port_r0 x0⟩]) : FnOk E r18port_id r18port_W := fn1_ok r18port_hO mix r18port_f r18port_n r18port_b (fun x0 hk => (r18port_e _ x0).trans (h x0 hk))
theorem r18port_ok : FnOk E r18port_id r18port_W := r18port_ok_of fun n hn => by
  have : ∃ p, r18port_any n p := by
    unfold r18port_any
    have ht := okN_text hn
    have o1 : okL1 n.text = true := okL1_iff.2 (by omega)
    have o2 : okP (rpparse_r0 n.text) = true := okL1_iff.2 (rpparse_pr (by omega))
    have o3 : ∀ k a b d, okP ⟨fldV n k [], a, b, d⟩ = true := fun k a b d => okL1_iff.2 (fldV_len hn k [] 1000000 (by simp) (by decide))
    have o4 : ∀ k, okNm n k = true := fun _ => hn
    simp only [r18port_t, node_eta, o1, o2, cond_true, okN_o4 hn, okN_fl hn, o3, o4]
    cases n.kind == 1 with
    | true => cases rpparse_r1 n.text != 0 <;> exact ⟨_, rfl⟩
    | false =>
      simp only [cond_false]
      generalize r18only_r0 n _ = b1
      cases b1 with
      | false => exact ⟨_, rfl⟩
      | true =>
        simp only [Bool.not_true, cond_false]
        cases (bif bif bif !(r18number_r1 n [116, 97, 114, 103, 101, 116]) then true else !(r18number_r1 n [112, 117, 98, 108, 105, 115, 104, 101, 100]) then true else !(fldB n [104, 111, 115, 116, 95, 105, 112] []) then true else !(fldB n [112, 114, 111, 116, 111, 99, 111, 108] [116, 99, 112])) <;> exact ⟨_, rfl⟩
  exact r18port_spec n this
noncomputable def r18ports_O : Oracle E := orac [(17, rwith_W), (58, r18text_W), (30, r18done_W), (64, r18port_W)] [] [] []
noncomputable def r18ports_H : Hint E := Hint.mk [(0, [1, 2, 4, 5])] [] [(0, [(4, some 2, false, .str), (4, some 3, false, .api_Node)])] [] []
noncomputable def r18ports_C0 (v0 : Int) (v1 : Int) (v2 : List UInt8) (v3 : List (List UInt8)) (v4 : List Node) (v5 : Int) (v6 : List UInt8) (v7 : Int) (v8 : List UInt8) (v9 : List (List UInt8)) (v10 : List Node) : ASt E := ASt.mk 72 [(1, .ptr 0 0), (2, .ptr 1 0), (4, .ptr 2 0), (5, .d (.int .i64 v0))] [(0, .box [.d (.int .i64 v1), .d (.str v2), .d (.slice .str v3), .d (.slice .api_Node v4)]), (1, .box [.d (.int .i64 v5), .d (.str v6), .d (.raw (.slice none 0 0)), .d (.raw (.slice none 0 0))]), (2, .box [.d (.int .i64 v7), .d (.str v8), .d (.slice .str v9), .d (.slice .api_Node v10)])] 3
noncomputable def r18ports_t (G : Nat → ASt E → Option (List (TV E))) (x0 : Node) : Option (List (TV E)) :=
  bif (bif (decide ((32 : Int) < (x0.kids.length : Int))) then true else (decide (x0.kind < (2 : Int)))) then some [⟨.api_Node, (⟨(0 : Int), ([] : List UInt8), ([] : List (List UInt8)), ([] : List Node)⟩ : Node)⟩, ⟨.bool, false⟩] else G 0 (r18ports_C0 (0 : Int) x0.kind x0.text x0.keys x0.kids (0 : Int) ([] : List UInt8) (0 : Int) ([] : List UInt8) ([] : List (List UInt8)) ([] : List Node))
theorem r18ports_e (G : Nat → ASt E → Option (List (TV E))) (x0 : Node) : runE r18ports_O r18ports_H G Tryz.f47 [⟨.api_Node, x0⟩] = r18ports_t G x0 := by kernel_rfl
noncomputable def r18ports_t0 (G : Nat → ASt E → Option (List (TV E))) (v0 : Int) (v1 : Int) (v2 : List UInt8) (v3 : List (List UInt8)) (v4 : List Node) (v5 : Int) (v6 : List UInt8) (v7 : Int) (v8 : List UInt8) (v9 : List (List UInt8)) (v10 : List Node) : Option (List (TV E)) :=
  bif (decide (v0 < (v4.length : Int))) then (bif (v1 == (2 : Int)) then (bif (decide ((0 : Int) ≤ v0) && decide (v0 < (v4.length : Int))) then (bif (okN (⟨(List.getD v4 (Int.toNat v0) (dflt .api_Node)).kind, (List.getD v4 (Int.toNat v0) (dflt .api_Node)).text, (List.getD v4 (Int.toNat v0) (dflt .api_Node)).keys, (List.getD v4 (Int.toNat v0) (dflt .api_Node)).kids⟩ : Node)) then (bif ((r18port_r0 (⟨(List.getD v4 (Int.toNat v0) (dflt .api_Node)).kind, (List.getD v4 (Int.toNat v0) (dflt .api_Node)).text, (List.getD v4 (Int.toNat v0) (dflt .api_Node)).keys, (List.getD v4 (Int.toNat v0) (dflt .api_Node)).kids⟩ : Node)) == ([] : List UInt8)) then some [⟨.api_Node, (⟨(0 : Int), ([] : List UInt8), ([] : List (List UInt8)), ([] : List Node)⟩ : Node)⟩, ⟨.bool, false⟩] else (bif (okWi (⟨v7, v8, v9, v10⟩ : Node) (r18port_r0 (⟨(List.getD v4 (Int.toNat v0) (dflt .api_Node)).kind, (List.getD v4 (Int.toNat v0) (dflt .api_Node)).text, (List.getD v4 (Int.toNat v0) (dflt .api_Node)).keys, (List.getD v4 (Int.toNat v0) (dflt .api_Node)).kids⟩ : Node)) (⟨(0 : Int), ([] : List UInt8), ([] : List (List UInt8)), ([] : List Node)⟩ : Node)) then G 0 (r18ports_C0 (w64 (v0 + (1 : Int))) v1 v2 v3 v4 v5 v6 ((withV (⟨v7, v8, v9, v10⟩ : Node) (r18port_r0 (⟨(List.getD v4 (Int.toNat v0) (dflt .api_Node)).kind, (List.getD v4 (Int.toNat v0) (dflt .api_Node)).text, (List.getD v4 (Int.toNat v0) (dflt .api_Node)).keys, (List.getD v4 (Int.toNat v0) (dflt .api_Node)).kids⟩ : Node)) (⟨(0 : Int), ([] : List UInt8), ([] : List (List UInt8)), ([] : List Node)⟩ : Node)).kind) ((withV (⟨v7, v8, v9, v10⟩ : Node) (r18port_r0 (⟨(List.getD v4 (Int.toNat v0) (dflt .api_Node)).kind, (List.getD v4 (Int.toNat v0) (dflt .api_Node)).text, (List.getD v4 (Int.toNat v0) (dflt .api_Node)).keys, (List.getD v4 (Int.toNat v0) (dflt .api_Node)).kids⟩ : Node)) (⟨(0 : Int), ([] : List UInt8), ([] : List (List UInt8)), ([] : List Node)⟩ : Node)).text) ((withV (⟨v7, v8, v9, v10⟩ : Node) (r18port_r0 (⟨(List.getD v4 (Int.toNat v0) (dflt .api_Node)).kind, (List.getD v4 (Int.toNat v0) (dflt .api_Node)).text, (List.getD v4 (Int.toNat v0) (dflt .api_Node)).keys, (List.getD v4 (Int.toNat v0) (dflt .api_Node)).kids⟩ : Node)) (⟨(0 : Int), ([] : List UInt8), ([] : List (List UInt8)), ([] : List Node)⟩ : Node)).keys) ((withV (⟨v7, v8, v9, v10⟩ : Node) (r18port_r0 (⟨(List.getD v4 (Int.toNat v0) (dflt .api_Node)).kind, (List.getD v4 (Int.toNat v0) (dflt .api_Node)).text, (List.getD v4 (Int.toNat v0) (dflt .api_Node)).keys, (List.getD v4 (Int.toNat v0) (dflt .api_Node)).kids⟩ : Node)) (⟨(0 : Int), ([] : List UInt8), ([] : List (List UInt8)), ([] : List Node)⟩ : Node)).kids)) else none)) else none) else none) else (bif (decide ((0 : Int) ≤ v0) && decide (v0 < (v4.length : Int))) then (bif ((decide ((0 : Int) ≤ v0) && decide (v0 < (v3.length : Int))) || !((List.getD v4 (Int.toNat v0) (dflt .api_Node)).kind == (0 : Int))) then (bif ((okN (txtN (List.getD v3 (Int.toNat v0) (dflt .str)))) || !((List.getD v4 (Int.toNat v0) (dflt .api_Node)).kind == (0 : Int))) then (bif ((decide ((0 : Int) ≤ v0) && decide (v0 < (v3.length : Int))) || !((List.getD v4 (Int.toNat v0) (dflt .api_Node)).kind == (0 : Int))) then (bif (bif ((List.getD v4 (Int.toNat v0) (dflt .api_Node)).kind == (0 : Int)) then ((r18port_r0 (txtN (List.getD v3 (Int.toNat v0) (dflt .str)))) == (List.getD v3 (Int.toNat v0) (dflt .str))) else false) then (bif (decide ((0 : Int) ≤ v0) && decide (v0 < (v3.length : Int))) then (bif ((List.getD v3 (Int.toNat v0) (dflt .str)) == ([] : List UInt8)) then some [⟨.api_Node, (⟨(0 : Int), ([] : List UInt8), ([] : List (List UInt8)), ([] : List Node)⟩ : Node)⟩, ⟨.bool, false⟩] else (bif (okWi (⟨v7, v8, v9, v10⟩ : Node) (List.getD v3 (Int.toNat v0) (dflt .str)) (⟨(0 : Int), ([] : List UInt8), ([] : List (List UInt8)), ([] : List Node)⟩ : Node)) then G 0 (r18ports_C0 (w64 (v0 + (1 : Int))) v1 v2 v3 v4 v5 v6 ((withV (⟨v7, v8, v9, v10⟩ : Node) (List.getD v3 (Int.toNat v0) (dflt .str)) (⟨(0 : Int), ([] : List UInt8), ([] : List (List UInt8)), ([] : List Node)⟩ : Node)).kind) ((withV (⟨v7, v8, v9, v10⟩ : Node) (List.getD v3 (Int.toNat v0) (dflt .str)) (⟨(0 : Int), ([] : List UInt8), ([] : List (List UInt8)), ([] : List Node)⟩ : Node)).text) ((withV (⟨v7, v8, v9, v10⟩ : Node) (List.getD v3 (Int.toNat v0) (dflt .str)) (⟨(0 : Int), ([] : List UInt8), ([] : List (List UInt8)), ([] : List Node)⟩ : Node)).keys) ((withV (⟨v7, v8, v9, v10⟩ : Node) (List.getD v3 (Int.toNat v0) (dflt .str)) (⟨(0 : Int), ([] : List UInt8), ([] : List (List UInt8)), ([] : List Node)⟩ : Node)).kids)) else none)) else none) else (bif (([] : List UInt8) == ([] : List UInt8)) then some [⟨.api_Node, (⟨(0 : Int), ([] : List UInt8), ([] : List (List UInt8)), ([] : List Node)⟩ : Node)⟩, ⟨.bool, false⟩] else (bif (okWi (⟨v7, v8, v9, v10⟩ : Node) ([] : List UInt8) (⟨(0 : Int), ([] : List UInt8), ([] : List (List UInt8)), ([] : List Node)⟩ : Node)) then G 0 (r18ports_C0 (w64 (v0 + (1 : Int))) v1 v2 v3 v4 v5 v6 ((withV (⟨v7, v8, v9, v10⟩ : Node) ([] : List UInt8) (⟨(0 : Int), ([] : List UInt8), ([] : List (List UInt8)), ([] : List Node)⟩ : Node)).kind) ((withV (⟨v7, v8, v9, v10⟩ : Node) ([] : List UInt8) (⟨(0 : Int), ([] : List UInt8), ([] : List (List UInt8)), ([] : List Node)⟩ : Node)).text) ((withV (⟨v7, v8, v9, v10⟩ : Node) ([] : List UInt8) (⟨(0 : Int), ([] : List UInt8), ([] : List (List UInt8)), ([] : List Node)⟩ : Node)).keys) ((withV (⟨v7, v8, v9, v10⟩ : Node) ([] : List UInt8) (⟨(0 : Int), ([] : List UInt8), ([] : List (List UInt8)), ([] : List Node)⟩ : Node)).kids)) else none))) else none) else none) else none) else none)) else (bif (okDn (⟨v7, v8, v9, v10⟩ : Node) true) then some [⟨.api_Node, (⟨(doneV (⟨v7, v8, v9, v10⟩ : Node) true).kind, (doneV (⟨v7, v8, v9, v10⟩ : Node) true).text, (doneV (⟨v7, v8, v9, v10⟩ : Node) true).keys, (doneV (⟨v7, v8, v9, v10⟩ : Node) true).kids⟩ : Node)⟩, ⟨.bool, (doneB (⟨v7, v8, v9, v10⟩ : Node) true)⟩] else none)
theorem r18ports_l0 (G : Nat → ASt E → Option (List (TV E))) (v0 : Int) (v1 : Int) (v2 : List UInt8) (v3 : List (List UInt8)) (v4 : List Node) (v5 : Int) (v6 : List UInt8) (v7 : Int) (v8 : List UInt8) (v9 : List (List UInt8)) (v10 : List Node) : runL r18ports_O r18ports_H G Tryz.f47 0 (r18ports_C0 v0 v1 v2 v3 v4 v5 v6 v7 v8 v9 v10) = r18ports_t0 G v0 v1 v2 v3 v4 v5 v6 v7 v8 v9 v10 := by kernel_rfl
theorem r18ports_f : Tryz.prog.funcs[47]? = some Tryz.f47 := by kernel_rfl
theorem r18ports_n : (Tryz.f47.name == "runtime.NumGoroutine") = false := by kernel_rfl
theorem r18ports_b : Tryz.f47.body.isNone = false := by kernel_rfl
theorem r18ports_ex : ∃ fn, Tryz.prog.funcs[47]? = some fn ∧ (fn.name == "runtime.NumGoroutine") = false ∧ fn.body.isNone = false := ⟨Tryz.f47, r18ports_f, r18ports_n, r18ports_b⟩
theorem r18ports_hO : OracleOk E r18ports_O := orac_ok (.cons rwith_ok (.cons r18text_ok (.cons r18done_ok (.cons r18port_ok .nil)))) .nil .nil .nil
theorem r18ports_s0 {res : List (TV E)} {v0 : Int} {v1 : Int} {v2 : List UInt8} {v3 : List (List UInt8)} {v4 : List Node} {v5 : Int} {v6 : List UInt8} {v7 : Int} {v8 : List UInt8} {v9 : List (List UInt8)} {v10 : List Node} (h : r18ports_t0 (Gr E Tryz.f47 res) v0 v1 v2 v3 v4 v5 v6 v7 v8 v9 v10 = some res) : Ev E Tryz.f47 res 0 (r18ports_C0 v0 v1 v2 v3 v4 v5 v6 v7 v8 v9 v10) := Ev.step r18ports_hO mix ((r18ports_l0 _ v0 v1 v2 v3 v4 v5 v6 v7 v8 v9 v10).trans h)
def r18ports_any (x0 : Node) (p : Node × Bool) : Prop := r18ports_t (Gr E Tryz.f47 [⟨.api_Node, p.1⟩, ⟨.bool, p.2⟩]) x0 = some [⟨.api_Node, p.1⟩, ⟨.bool, p.2⟩] ∧ setPr x0 p
noncomputable def r18ports_p (x0 : Node) : Node × Bool := @Classical.epsilon _ ⟨(dflt .api_Node, dflt .bool)⟩ (r18ports_any x0)
noncomputable def r18ports_r0 (x0 : Node) : Node := (r18ports_p x0).1
noncomputable def r18ports_r1 (x0 : Node) : Bool := (r18ports_p x0).2
theorem r18ports_spec (x0 : Node) (h : ∃ p, r18ports_any x0 p) : r18ports_any x0 (r18ports_p x0) := Classical.epsilon_spec h
noncomputable def r18ports_W : FnW E := fn12 (E := E) .api_Node .api_Node .bool okN r18ports_r0 r18ports_r1
def r18ports_id : FuncId := 47
theorem r18ports_ok_of (h : ∀ (x0 : Node), okN x0 = true → r18ports_t (Gr E Tryz.f47 [⟨.api_Node, r18ports_r0 x0⟩, ⟨.bool, r18ports_r1 x0⟩]) x0 = some [⟨.api_Node, r18ports_r0 x0⟩, ⟨.bool, r18ports_r1 x0⟩]) : FnOk E r18ports_id r18ports_W := fn12_ok r18ports_hO mix r18ports_f r18ports_n r18ports_b (fun x0 hk => (r18ports_e _ x0).trans (h x0 hk))
theorem txtN_okN {s : List UInt8} (h : s.length ≤ 200) : okN (txtN s) = true := okN_mk (wf_iff.2 ⟨by simp [txtN], by simp [txtN], (fun e => by cases e), h, (fun k hk => by cases hk), (fun y hy => by cases hy)⟩) rfl
theorem r18ports_0 (n : Node) (hn : okN n = true) (h32 : n.kids.length ≤ 32) (h2k : 2 ≤ n.kind) (u : Int) (t : List UInt8) : ∀ (m i : Nat) (o : Node), n.kids.length - i = m → i ≤ n.kids.length → Bq leafK 1 i o →
    NB Tryz.f47 m1P 0 (r18ports_C0 i n.kind n.text n.keys n.kids u t o.kind o.text o.keys o.kids) := by
  have hw := wf_iff.1 (okN_wf hn)
  intro m
  induction m with
  | zero =>
    intro i o h1 h2 h3
    refine anyS (fun _ h => r18ports_s0 h) ?_
    simp only [r18ports_t0, dge (show n.kids.length ≤ i by omega), cond_false, node_eta]
    exact done_m1 h3 true
  | succ m ih =>
    intro i o h1 h2 h3
    have hi : i < n.kids.length := by omega
    have e1 : w64 ((i : Int) + 1) = ((i + 1 : Nat) : Int) := by rw [w64_id (by omega) (by omega)]; omega
    have hk := okN_kid hn (List.getElem_mem hi)
    have go : ∀ s, NB Tryz.f47 m1P 0 (r18ports_C0 ((i + 1 : Nat) : Int) n.kind n.text n.keys n.kids u t (withV o s ⟨0, [], [], []⟩).kind (withV o s ⟨0, [], [], []⟩).text (withV o s ⟨0, [], [], []⟩).keys (withV o s ⟨0, [], [], []⟩).kids) :=
      fun s => ih (i + 1) _ (by omega) (by omega) (h3.put (zn_leaf _) (zn_wg 0))
    refine anyS (fun _ h => r18ports_s0 h) ?_
    by_cases hk2 : n.kind = 2
    · simp only [r18ports_t0, dlt hi, d0, Bool.and_self, Bool.true_or, cond_true, gd n.kids _ i hi, node_eta, eqT hk2, hk, h3.ok (by omega), e1]
      cases r18port_r0 n.kids[i] == [] with
      | true => exact ⟨(⟨0, [], [], []⟩, false), m1_no, rfl⟩
      | false => exact anyS (fun _ h => Gr_of h) (go _)
    · simp only [r18ports_t0, dlt hi, d0, Bool.and_self, Bool.true_or, Bool.true_and, cond_true, cond_false, gd n.kids _ i hi, node_eta, eqF hk2, h3.ok (by omega), e1]
      have hj : i < n.keys.length := by have := hw.2.2.1 (by have := (kd_iff.1 (okN_kd hn)).1; omega); omega
      have hkl := hw.2.2.2.2.1 _ (List.getElem_mem hj)
      simp only [dlt hj, gd n.keys _ i hj, txtN_okN hkl, Bool.true_or, cond_true]
      cases (bif n.kids[i].kind == 0 then r18port_r0 (txtN n.keys[i]) == n.keys[i] else false) with
      | false => exact ⟨(⟨0, [], [], []⟩, false), m1_no, rfl⟩
      | true =>
        simp only [cond_true]
        cases n.keys[i] == [] with
        | true => exact ⟨(⟨0, [], [], []⟩, false), m1_no, rfl⟩
        | false => exact anyS (fun _ h => Gr_of h) (go _)
theorem r18ports_tot (n : Node) (hn : okN n = true) : ∃ p, r18ports_any n p := by
  have flip : (∃ p, m1P p ∧ r18ports_t (Gr E Tryz.f47 [⟨.api_Node, p.1⟩, ⟨.bool, p.2⟩]) n = some [⟨.api_Node, p.1⟩, ⟨.bool, p.2⟩]) → ∃ p, r18ports_any n p := fun ⟨p, h1, h2⟩ => ⟨p, h2, h1⟩
  refine flip ?_
  simp only [r18ports_t]
  by_cases h : (32 : Int) < (n.kids.length : Int)
  · rw [dT h]; exact ⟨(⟨0, [], [], []⟩, false), m1_no, rfl⟩
  · by_cases h2 : n.kind < 2
    · rw [dF h, dT h2]; exact ⟨(⟨0, [], [], []⟩, false), m1_no, rfl⟩
    · rw [dF h, dF h2]
      exact anyS (fun _ h => Gr_of h) (r18ports_0 n hn (by omega) (by omega) _ _ _ 0 ⟨0, [], [], []⟩ rfl (Nat.zero_le _) (Bq.nil (.inl rfl)))
theorem r18ports_ok : FnOk E r18ports_id r18ports_W := r18ports_ok_of fun n hk => (r18ports_spec n (r18ports_tot n hk)).1
theorem r18ports_pr {n : Node} (hk : okN n = true) : m1P (r18ports_p n) := (r18ports_spec n (r18ports_tot n hk)).2
def omtPr (_ : Node) (p : Mount × Bool) : Prop := p.1.target.length ≤ 1000000 ∧ p.1.source.length ≤ 1000000
noncomputable def r18mount_O : Oracle E := orac [(95, rmparse_W), (96, rmright_W), (69, r18field_W), (68, r18only_W), (70, r18truth_W)] [] [] []
noncomputable def r18mount_H : Hint E := Hint.mk [] [] [] [] []
noncomputable def r18mount_t (_G : Nat → ASt E → Option (List (TV E))) (x0 : Node) : Option (List (TV E)) :=
  bif (x0.kind == (1 : Int)) then (bif (okL1 x0.text) then some [⟨.api_Mount, (rmparse_r0 x0.text)⟩, ⟨.bool, ((rmparse_r1 x0.text) == (0 : Int))⟩] else none) else (bif (okOn (⟨x0.kind, x0.text, x0.keys, x0.kids⟩ : Node) ([([115, 111, 117, 114, 99, 101] : List UInt8), ([116, 97, 114, 103, 101, 116] : List UInt8), ([114, 101, 97, 100, 95, 111, 110, 108, 121] : List UInt8), ([116, 121, 112, 101] : List UInt8)] : List (List UInt8))) then (bif (!(r18only_r0 (⟨x0.kind, x0.text, x0.keys, x0.kids⟩ : Node) ([([115, 111, 117, 114, 99, 101] : List UInt8), ([116, 97, 114, 103, 101, 116] : List UInt8), ([114, 101, 97, 100, 95, 111, 110, 108, 121] : List UInt8), ([116, 121, 112, 101] : List UInt8)] : List (List UInt8)))) then some [⟨.api_Mount, (⟨([] : List UInt8), ([] : List UInt8), false⟩ : Mount)⟩, ⟨.bool, false⟩] else (bif (okFl (⟨x0.kind, x0.text, x0.keys, x0.kids⟩ : Node) ([115, 111, 117, 114, 99, 101] : List UInt8) ([] : List UInt8)) then (bif (okFl (⟨x0.kind, x0.text, x0.keys, x0.kids⟩ : Node) ([116, 97, 114, 103, 101, 116] : List UInt8) ([] : List UInt8)) then (bif (okFl (⟨x0.kind, x0.text, x0.keys, x0.kids⟩ : Node) ([114, 101, 97, 100, 95, 111, 110, 108, 121] : List UInt8) ([102, 97, 108, 115, 101] : List UInt8)) then (bif (okFl (⟨x0.kind, x0.text, x0.keys, x0.kids⟩ : Node) ([116, 121, 112, 101] : List UInt8) ([98, 105, 110, 100] : List UInt8)) then (bif ((okM (⟨(fldV (⟨x0.kind, x0.text, x0.keys, x0.kids⟩ : Node) ([115, 111, 117, 114, 99, 101] : List UInt8) ([] : List UInt8)), (fldV (⟨x0.kind, x0.text, x0.keys, x0.kids⟩ : Node) ([116, 97, 114, 103, 101, 116] : List UInt8) ([] : List UInt8)), ((fldV (⟨x0.kind, x0.text, x0.keys, x0.kids⟩ : Node) ([114, 101, 97, 100, 95, 111, 110, 108, 121] : List UInt8) ([102, 97, 108, 115, 101] : List UInt8)) == ([116, 114, 117, 101] : List UInt8))⟩ : Mount)) || !(bif (bif (bif (fldB (⟨x0.kind, x0.text, x0.keys, x0.kids⟩ : Node) ([115, 111, 117, 114, 99, 101] : List UInt8) ([] : List UInt8)) then (fldB (⟨x0.kind, x0.text, x0.keys, x0.kids⟩ : Node) ([116, 97, 114, 103, 101, 116] : List UInt8) ([] : List UInt8)) else false) then (truB (⟨x0.kind, x0.text, x0.keys, x0.kids⟩ : Node) ([114, 101, 97, 100, 95, 111, 110, 108, 121] : List UInt8) ([102, 97, 108, 115, 101] : List UInt8)) else false) then (fldB (⟨x0.kind, x0.text, x0.keys, x0.kids⟩ : Node) ([116, 121, 112, 101] : List UInt8) ([98, 105, 110, 100] : List UInt8)) else false)) then some [⟨.api_Mount, (⟨(fldV (⟨x0.kind, x0.text, x0.keys, x0.kids⟩ : Node) ([115, 111, 117, 114, 99, 101] : List UInt8) ([] : List UInt8)), (fldV (⟨x0.kind, x0.text, x0.keys, x0.kids⟩ : Node) ([116, 97, 114, 103, 101, 116] : List UInt8) ([] : List UInt8)), ((fldV (⟨x0.kind, x0.text, x0.keys, x0.kids⟩ : Node) ([114, 101, 97, 100, 95, 111, 110, 108, 121] : List UInt8) ([102, 97, 108, 115, 101] : List UInt8)) == ([116, 114, 117, 101] : List UInt8))⟩ : Mount)⟩, ⟨.bool, (bif (bif (bif (bif (bif (fldB (⟨x0.kind, x0.text, x0.keys, x0.kids⟩ : Node) ([115, 111, 117, 114, 99, 101] : List UInt8) ([] : List UInt8)) then (fldB (⟨x0.kind, x0.text, x0.keys, x0.kids⟩ : Node) ([116, 97, 114, 103, 101, 116] : List UInt8) ([] : List UInt8)) else false) then (truB (⟨x0.kind, x0.text, x0.keys, x0.kids⟩ : Node) ([114, 101, 97, 100, 95, 111, 110, 108, 121] : List UInt8) ([102, 97, 108, 115, 101] : List UInt8)) else false) then (fldB (⟨x0.kind, x0.text, x0.keys, x0.kids⟩ : Node) ([116, 121, 112, 101] : List UInt8) ([98, 105, 110, 100] : List UInt8)) else false) then (rmright_r0 (⟨(fldV (⟨x0.kind, x0.text, x0.keys, x0.kids⟩ : Node) ([115, 111, 117, 114, 99, 101] : List UInt8) ([] : List UInt8)), (fldV (⟨x0.kind, x0.text, x0.keys, x0.kids⟩ : Node) ([116, 97, 114, 103, 101, 116] : List UInt8) ([] : List UInt8)), ((fldV (⟨x0.kind, x0.text, x0.keys, x0.kids⟩ : Node) ([114, 101, 97, 100, 95, 111, 110, 108, 121] : List UInt8) ([102, 97, 108, 115, 101] : List UInt8)) == ([116, 114, 117, 101] : List UInt8))⟩ : Mount)) else false) then (bif (bif ((fldV (⟨x0.kind, x0.text, x0.keys, x0.kids⟩ : Node) ([116, 121, 112, 101] : List UInt8) ([98, 105, 110, 100] : List UInt8)) == ([118, 111, 108, 117, 109, 101] : List UInt8)) then true else ((fldV (⟨x0.kind, x0.text, x0.keys, x0.kids⟩ : Node) ([116, 121, 112, 101] : List UInt8) ([98, 105, 110, 100] : List UInt8)) == ([98, 105, 110, 100] : List UInt8))) then true else ((fldV (⟨x0.kind, x0.text, x0.keys, x0.kids⟩ : Node) ([116, 121, 112, 101] : List UInt8) ([98, 105, 110, 100] : List UInt8)) == ([116, 109, 112, 102, 115] : List UInt8))) else false)⟩] else none) else none) else none) else none) else none)) else none)
theorem r18mount_e (G : Nat → ASt E → Option (List (TV E))) (x0 : Node) : runE r18mount_O r18mount_H G Tryz.f65 [⟨.api_Node, x0⟩] = r18mount_t G x0 := by kernel_rfl
theorem r18mount_f : Tryz.prog.funcs[65]? = some Tryz.f65 := by kernel_rfl
theorem r18mount_n : (Tryz.f65.name == "runtime.NumGoroutine") = false := by kernel_rfl
theorem r18mount_b : Tryz.f65.body.isNone = false := by kernel_rfl
theorem r18mount_ex : ∃ fn, Tryz.prog.funcs[65]? = some fn ∧ (fn.name == "runtime.NumGoroutine") = false ∧ fn.body.isNone = false := ⟨Tryz.f65, r18mount_f, r18mount_n, r18mount_b⟩
theorem r18mount_hO : OracleOk E r18mount_O := orac_ok (.cons rmparse_ok (.cons rmright_ok (.cons r18field_ok (.cons r18only_ok (.cons r18truth_ok .nil))))) .nil .nil .nil
def r18mount_any (x0 : Node) (p : Mount × Bool) : Prop := r18mount_t (Gr E Tryz.f65 [⟨.api_Mount, p.1⟩, ⟨.bool, p.2⟩]) x0 = some [⟨.api_Mount, p.1⟩, ⟨.bool, p.2⟩] ∧ omtPr x0 p
noncomputable def r18mount_p (x0 : Node) : Mount × Bool := @Classical.epsilon _ ⟨(dflt .api_Mount, dflt .bool)⟩ (r18mount_any x0)
noncomputable def r18mount_r0 (x0 : Node) : Mount := (r18mount_p x0).1
noncomputable def r18mount_r1 (x0 : Node) : Bool := (r18mount_p x0).2
theorem r18mount_spec (x0 : Node) (h : ∃ p, r18mount_any x0 p) : r18mount_any x0 (r18mount_p x0) := Classical.epsilon_spec h
noncomputable def r18mount_W : FnW E := fn12 (E := E) .api_Node .api_Mount .bool okN r18mount_r0 r18mount_r1
def r18mount_id : FuncId := 65
theorem r18mount_ok_of (h : ∀ (x0 : Node), okN x0 = true → r18mount_t (Gr E Tryz.f65 [⟨.api_Mount, r18mount_r0 x0⟩, ⟨.bool, r18mount_r1 x0⟩]) x0 = some [⟨.api_Mount, r18mount_r0 x0⟩, ⟨.bool, r18mount_r1 x0⟩]) : FnOk E r18mount_id r18mount_W := fn12_ok r18mount_hO mix r18mount_f r18mount_n r18mount_b (fun x0 hk => (r18mount_e _ x0).trans (h x0 hk))
theorem r18mount_tot (n : Node) (hn : okN n = true) : ∃ p, r18mount_any n p := by
  have flip : (∃ p, omtPr n p ∧ r18mount_t (Gr E Tryz.f65 [⟨.api_Mount, p.1⟩, ⟨.bool, p.2⟩]) n = some [⟨.api_Mount, p.1⟩, ⟨.bool, p.2⟩]) → ∃ p, r18mount_any n p := fun ⟨p, h1, h2⟩ => ⟨p, h2, h1⟩
  refine flip ?_
  have ht := okN_text hn
  have o1 : okL1 n.text = true := okL1_iff.2 (by omega)
  have hq := rmparse_pr (show n.text.length ≤ 1000000 by omega)
  have hf := fun k => fldV_len hn k [] 1000000 (by simp) (by decide)
  have o3 : ∀ a b c, okM ⟨fldV n a [], fldV n b [], c⟩ = true := fun a b c => okM_iff.2 ⟨hf b, hf a⟩
  have z : ([] : List UInt8).length ≤ 1000000 := by simp
  simp only [r18mount_t, node_eta, o1, cond_true, okN_o4 hn, okN_fl hn, o3, Bool.true_or]
  cases n.kind == 1 with
  | true => exact ⟨(rmparse_r0 n.text, _), hq, rfl⟩
  | false =>
    simp only [cond_false]
    generalize r18only_r0 n _ = b1
    cases b1 with
    | false => exact ⟨(⟨[], [], false⟩, false), ⟨z, z⟩, rfl⟩
    | true => exact ⟨(⟨fldV n [115, 111, 117, 114, 99, 101] [], fldV n [116, 97, 114, 103, 101, 116] [], fldV n [114, 101, 97, 100, 95, 111, 110, 108, 121] [102, 97, 108, 115, 101] == [116, 114, 117, 101]⟩, _), ⟨hf _, hf _⟩, rfl⟩
theorem r18mount_ok : FnOk E r18mount_id r18mount_W := r18mount_ok_of fun n hk => (r18mount_spec n (r18mount_tot n hk)).1
theorem r18mount_pr {n : Node} (hk : okN n = true) : okM (r18mount_r0 n) = true := okM_iff.2 (r18mount_spec n (r18mount_tot n hk)).2
noncomputable def r18mounts_O : Oracle E := orac [(17, rwith_W), (66, rmtext_W), (58, r18text_W), (30, r18done_W), (65, r18mount_W)] [] [] []
noncomputable def r18mounts_H : Hint E := Hint.mk [(0, [1, 2, 4, 5])] [] [(0, [(4, some 2, false, .str), (4, some 3, false, .api_Node)])] [] []
noncomputable def r18mounts_C0 (v0 : Int) (v1 : Int) (v2 : List UInt8) (v3 : List (List UInt8)) (v4 : List Node) (v5 : Int) (v6 : List UInt8) (v7 : Int) (v8 : List UInt8) (v9 : List (List UInt8)) (v10 : List Node) : ASt E := ASt.mk 85 [(1, .ptr 0 0), (2, .ptr 1 0), (4, .ptr 2 0), (5, .d (.int .i64 v0))] [(0, .box [.d (.int .i64 v1), .d (.str v2), .d (.slice .str v3), .d (.slice .api_Node v4)]), (1, .box [.d (.int .i64 v5), .d (.str v6), .d (.raw (.slice none 0 0)), .d (.raw (.slice none 0 0))]), (2, .box [.d (.int .i64 v7), .d (.str v8), .d (.slice .str v9), .d (.slice .api_Node v10)])] 3
noncomputable def r18mounts_t (G : Nat → ASt E → Option (List (TV E))) (x0 : Node) : Option (List (TV E)) :=
  bif (bif (decide ((32 : Int) < (x0.kids.length : Int))) then true else (decide (x0.kind < (2 : Int)))) then some [⟨.api_Node, (⟨(0 : Int), ([] : List UInt8), ([] : List (List UInt8)), ([] : List Node)⟩ : Node)⟩, ⟨.bool, false⟩] else G 0 (r18mounts_C0 (0 : Int) x0.kind x0.text x0.keys x0.kids (0 : Int) ([] : List UInt8) (0 : Int) ([] : List UInt8) ([] : List (List UInt8)) ([] : List Node))
theorem r18mounts_e (G : Nat → ASt E → Option (List (TV E))) (x0 : Node) : runE r18mounts_O r18mounts_H G Tryz.f48 [⟨.api_Node, x0⟩] = r18mounts_t G x0 := by kernel_rfl
noncomputable def r18mounts_t0 (G : Nat → ASt E → Option (List (TV E))) (v0 : Int) (v1 : Int) (v2 : List UInt8) (v3 : List (List UInt8)) (v4 : List Node) (v5 : Int) (v6 : List UInt8) (v7 : Int) (v8 : List UInt8) (v9 : List (List UInt8)) (v10 : List Node) : Option (List (TV E)) :=
  bif (decide (v0 < (v4.length : Int))) then (bif (decide ((0 : Int) ≤ v0) && decide (v0 < (v4.length : Int))) then (bif (okN (⟨(List.getD v4 (Int.toNat v0) (dflt .api_Node)).kind, (List.getD v4 (Int.toNat v0) (dflt .api_Node)).text, (List.getD v4 (Int.toNat v0) (dflt .api_Node)).keys, (List.getD v4 (Int.toNat v0) (dflt .api_Node)).kids⟩ : Node)) then (bif (okM (r18mount_r0 (⟨(List.getD v4 (Int.toNat v0) (dflt .api_Node)).kind, (List.getD v4 (Int.toNat v0) (dflt .api_Node)).text, (List.getD v4 (Int.toNat v0) (dflt .api_Node)).keys, (List.getD v4 (Int.toNat v0) (dflt .api_Node)).kids⟩ : Node))) then (bif ((decide ((0 : Int) ≤ v0) && decide (v0 < (v4.length : Int))) || !((!(!(r18mount_r1 (⟨(List.getD v4 (Int.toNat v0) (dflt .api_Node)).kind, (List.getD v4 (Int.toNat v0) (dflt .api_Node)).text, (List.getD v4 (Int.toNat v0) (dflt .api_Node)).keys, (List.getD v4 (Int.toNat v0) (dflt .api_Node)).kids⟩ : Node)))) && (v1 == (3 : Int)))) then (bif ((decide ((0 : Int) ≤ v0) && decide (v0 < (v4.length : Int))) || !(((!(!(r18mount_r1 (⟨(List.getD v4 (Int.toNat v0) (dflt .api_Node)).kind, (List.getD v4 (Int.toNat v0) (dflt .api_Node)).text, (List.getD v4 (Int.toNat v0) (dflt .api_Node)).keys, (List.getD v4 (Int.toNat v0) (dflt .api_Node)).kids⟩ : Node)))) && (v1 == (3 : Int))) && (!((List.getD v4 (Int.toNat v0) (dflt .api_Node)).kind != (1 : Int))))) then (bif ((decide ((0 : Int) ≤ v0) && decide (v0 < (v3.length : Int))) || !(((!(!(r18mount_r1 (⟨(List.getD v4 (Int.toNat v0) (dflt .api_Node)).kind, (List.getD v4 (Int.toNat v0) (dflt .api_Node)).text, (List.getD v4 (Int.toNat v0) (dflt .api_Node)).keys, (List.getD v4 (Int.toNat v0) (dflt .api_Node)).kids⟩ : Node)))) && (v1 == (3 : Int))) && (!(bif ((List.getD v4 (Int.toNat v0) (dflt .api_Node)).kind != (1 : Int)) then true else (!((List.getD v4 (Int.toNat v0) (dflt .api_Node)).text == (rmtext_r0 (r18mount_r0 (⟨(List.getD v4 (Int.toNat v0) (dflt .api_Node)).kind, (List.getD v4 (Int.toNat v0) (dflt .api_Node)).text, (List.getD v4 (Int.toNat v0) (dflt .api_Node)).keys, (List.getD v4 (Int.toNat v0) (dflt .api_Node)).kids⟩ : Node))))))))) then (bif (bif (!(r18mount_r1 (⟨(List.getD v4 (Int.toNat v0) (dflt .api_Node)).kind, (List.getD v4 (Int.toNat v0) (dflt .api_Node)).text, (List.getD v4 (Int.toNat v0) (dflt .api_Node)).keys, (List.getD v4 (Int.toNat v0) (dflt .api_Node)).kids⟩ : Node))) then true else (bif (v1 == (3 : Int)) then (bif (bif ((List.getD v4 (Int.toNat v0) (dflt .api_Node)).kind != (1 : Int)) then true else (!((List.getD v4 (Int.toNat v0) (dflt .api_Node)).text == (rmtext_r0 (r18mount_r0 (⟨(List.getD v4 (Int.toNat v0) (dflt .api_Node)).kind, (List.getD v4 (Int.toNat v0) (dflt .api_Node)).text, (List.getD v4 (Int.toNat v0) (dflt .api_Node)).keys, (List.getD v4 (Int.toNat v0) (dflt .api_Node)).kids⟩ : Node)))))) then true else (!((List.getD v3 (Int.toNat v0) (dflt .str)) == (r18mount_r0 (⟨(List.getD v4 (Int.toNat v0) (dflt .api_Node)).kind, (List.getD v4 (Int.toNat v0) (dflt .api_Node)).text, (List.getD v4 (Int.toNat v0) (dflt .api_Node)).keys, (List.getD v4 (Int.toNat v0) (dflt .api_Node)).kids⟩ : Node)).target))) else false)) then some [⟨.api_Node, (⟨(0 : Int), ([] : List UInt8), ([] : List (List UInt8)), ([] : List Node)⟩ : Node)⟩, ⟨.bool, false⟩] else (bif (okWi (⟨v7, v8, v9, v10⟩ : Node) ((r18mount_r0 (⟨(List.getD v4 (Int.toNat v0) (dflt .api_Node)).kind, (List.getD v4 (Int.toNat v0) (dflt .api_Node)).text, (List.getD v4 (Int.toNat v0) (dflt .api_Node)).keys, (List.getD v4 (Int.toNat v0) (dflt .api_Node)).kids⟩ : Node)).target) (txtN (rmtext_r0 (r18mount_r0 (⟨(List.getD v4 (Int.toNat v0) (dflt .api_Node)).kind, (List.getD v4 (Int.toNat v0) (dflt .api_Node)).text, (List.getD v4 (Int.toNat v0) (dflt .api_Node)).keys, (List.getD v4 (Int.toNat v0) (dflt .api_Node)).kids⟩ : Node))))) then G 0 (r18mounts_C0 (w64 (v0 + (1 : Int))) v1 v2 v3 v4 v5 v6 ((withV (⟨v7, v8, v9, v10⟩ : Node) ((r18mount_r0 (⟨(List.getD v4 (Int.toNat v0) (dflt .api_Node)).kind, (List.getD v4 (Int.toNat v0) (dflt .api_Node)).text, (List.getD v4 (Int.toNat v0) (dflt .api_Node)).keys, (List.getD v4 (Int.toNat v0) (dflt .api_Node)).kids⟩ : Node)).target) (txtN (rmtext_r0 (r18mount_r0 (⟨(List.getD v4 (Int.toNat v0) (dflt .api_Node)).kind, (List.getD v4 (Int.toNat v0) (dflt .api_Node)).text, (List.getD v4 (Int.toNat v0) (dflt .api_Node)).keys, (List.getD v4 (Int.toNat v0) (dflt .api_Node)).kids⟩ : Node))))).kind) ((withV (⟨v7, v8, v9, v10⟩ : Node) ((r18mount_r0 (⟨(List.getD v4 (Int.toNat v0) (dflt .api_Node)).kind, (List.getD v4 (Int.toNat v0) (dflt .api_Node)).text, (List.getD v4 (Int.toNat v0) (dflt .api_Node)).keys, (List.getD v4 (Int.toNat v0) (dflt .api_Node)).kids⟩ : Node)).target) (txtN (rmtext_r0 (r18mount_r0 (⟨(List.getD v4 (Int.toNat v0) (dflt .api_Node)).kind, (List.getD v4 (Int.toNat v0) (dflt .api_Node)).text, (List.getD v4 (Int.toNat v0) (dflt .api_Node)).keys, (List.getD v4 (Int.toNat v0) (dflt .api_Node)).kids⟩ : Node))))).text) ((withV (⟨v7, v8, v9, v10⟩ : Node) ((r18mount_r0 (⟨(List.getD v4 (Int.toNat v0) (dflt .api_Node)).kind, (List.getD v4 (Int.toNat v0) (dflt .api_Node)).text, (List.getD v4 (Int.toNat v0) (dflt .api_Node)).keys, (List.getD v4 (Int.toNat v0) (dflt .api_Node)).kids⟩ : Node)).target) (txtN (rmtext_r0 (r18mount_r0 (⟨(List.getD v4 (Int.toNat v0) (dflt .api_Node)).kind, (List.getD v4 (Int.toNat v0) (dflt .api_Node)).text, (List.getD v4 (Int.toNat v0) (dflt .api_Node)).keys, (List.getD v4 (Int.toNat v0) (dflt .api_Node)).kids⟩ : Node))))).keys) ((withV (⟨v7, v8, v9, v10⟩ : Node) ((r18mount_r0 (⟨(List.getD v4 (Int.toNat v0) (dflt .api_Node)).kind, (List.getD v4 (Int.toNat v0) (dflt .api_Node)).text, (List.getD v4 (Int.toNat v0) (dflt .api_Node)).keys, (List.getD v4 (Int.toNat v0) (dflt .api_Node)).kids⟩ : Node)).target) (txtN (rmtext_r0 (r18mount_r0 (⟨(List.getD v4 (Int.toNat v0) (dflt .api_Node)).kind, (List.getD v4 (Int.toNat v0) (dflt .api_Node)).text, (List.getD v4 (Int.toNat v0) (dflt .api_Node)).keys, (List.getD v4 (Int.toNat v0) (dflt .api_Node)).kids⟩ : Node))))).kids)) else none)) else none) else none) else none) else none) else none) else none) else (bif (okDn (⟨v7, v8, v9, v10⟩ : Node) true) then some [⟨.api_Node, (⟨(doneV (⟨v7, v8, v9, v10⟩ : Node) true).kind, (doneV (⟨v7, v8, v9, v10⟩ : Node) true).text, (doneV (⟨v7, v8, v9, v10⟩ : Node) true).keys, (doneV (⟨v7, v8, v9, v10⟩ : Node) true).kids⟩ : Node)⟩, ⟨.bool, (doneB (⟨v7, v8, v9, v10⟩ : Node) true)⟩] else none)
theorem r18mounts_l0 (G : Nat → ASt E → Option (List (TV E))) (v0 : Int) (v1 : Int) (v2 : List UInt8) (v3 : List (List UInt8)) (v4 : List Node) (v5 : Int) (v6 : List UInt8) (v7 : Int) (v8 : List UInt8) (v9 : List (List UInt8)) (v10 : List Node) : runL r18mounts_O r18mounts_H G Tryz.f48 0 (r18mounts_C0 v0 v1 v2 v3 v4 v5 v6 v7 v8 v9 v10) = r18mounts_t0 G v0 v1 v2 v3 v4 v5 v6 v7 v8 v9 v10 := by kernel_rfl
theorem r18mounts_f : Tryz.prog.funcs[48]? = some Tryz.f48 := by kernel_rfl
theorem r18mounts_n : (Tryz.f48.name == "runtime.NumGoroutine") = false := by kernel_rfl
theorem r18mounts_b : Tryz.f48.body.isNone = false := by kernel_rfl
theorem r18mounts_ex : ∃ fn, Tryz.prog.funcs[48]? = some fn ∧ (fn.name == "runtime.NumGoroutine") = false ∧ fn.body.isNone = false := ⟨Tryz.f48, r18mounts_f, r18mounts_n, r18mounts_b⟩
theorem r18mounts_hO : OracleOk E r18mounts_O := orac_ok (.cons rwith_ok (.cons rmtext_ok (.cons r18text_ok (.cons r18done_ok (.cons r18mount_ok .nil))))) .nil .nil .nil
theorem r18mounts_s0 {res : List (TV E)} {v0 : Int} {v1 : Int} {v2 : List UInt8} {v3 : List (List UInt8)} {v4 : List Node} {v5 : Int} {v6 : List UInt8} {v7 : Int} {v8 : List UInt8} {v9 : List (List UInt8)} {v10 : List Node} (h : r18mounts_t0 (Gr E Tryz.f48 res) v0 v1 v2 v3 v4 v5 v6 v7 v8 v9 v10 = some res) : Ev E Tryz.f48 res 0 (r18mounts_C0 v0 v1 v2 v3 v4 v5 v6 v7 v8 v9 v10) := Ev.step r18mounts_hO mix ((r18mounts_l0 _ v0 v1 v2 v3 v4 v5 v6 v7 v8 v9 v10).trans h)
def r18mounts_any (x0 : Node) (p : Node × Bool) : Prop := r18mounts_t (Gr E Tryz.f48 [⟨.api_Node, p.1⟩, ⟨.bool, p.2⟩]) x0 = some [⟨.api_Node, p.1⟩, ⟨.bool, p.2⟩] ∧ setPr x0 p
noncomputable def r18mounts_p (x0 : Node) : Node × Bool := @Classical.epsilon _ ⟨(dflt .api_Node, dflt .bool)⟩ (r18mounts_any x0)
noncomputable def r18mounts_r0 (x0 : Node) : Node := (r18mounts_p x0).1
noncomputable def r18mounts_r1 (x0 : Node) : Bool := (r18mounts_p x0).2
theorem r18mounts_spec (x0 : Node) (h : ∃ p, r18mounts_any x0 p) : r18mounts_any x0 (r18mounts_p x0) := Classical.epsilon_spec h
noncomputable def r18mounts_W : FnW E := fn12 (E := E) .api_Node .api_Node .bool okN r18mounts_r0 r18mounts_r1
def r18mounts_id : FuncId := 48
theorem r18mounts_ok_of (h : ∀ (x0 : Node), okN x0 = true → r18mounts_t (Gr E Tryz.f48 [⟨.api_Node, r18mounts_r0 x0⟩, ⟨.bool, r18mounts_r1 x0⟩]) x0 = some [⟨.api_Node, r18mounts_r0 x0⟩, ⟨.bool, r18mounts_r1 x0⟩]) : FnOk E r18mounts_id r18mounts_W := fn12_ok r18mounts_hO mix r18mounts_f r18mounts_n r18mounts_b (fun x0 hk => (r18mounts_e _ x0).trans (h x0 hk))
theorem r18mounts_0 (n : Node) (hn : okN n = true) (h32 : n.kids.length ≤ 32) (u : Int) (t : List UInt8) : ∀ (m i : Nat) (o : Node), n.kids.length - i = m → i ≤ n.kids.length → Bq leafK 1 i o →
    NB Tryz.f48 m1P 0 (r18mounts_C0 i n.kind n.text n.keys n.kids u t o.kind o.text o.keys o.kids) := by
  have hw := wf_iff.1 (okN_wf hn)
  intro m
  induction m with
  | zero =>
    intro i o h1 h2 h3
    refine anyS (fun _ h => r18mounts_s0 h) ?_
    simp only [r18mounts_t0, dge (show n.kids.length ≤ i by omega), cond_false, node_eta]
    exact done_m1 h3 true
  | succ m ih =>
    intro i o h1 h2 h3
    have hi : i < n.kids.length := by omega
    have e1 : w64 ((i : Int) + 1) = ((i + 1 : Nat) : Int) := by rw [w64_id (by omega) (by omega)]; omega
    have hk := okN_kid hn (List.getElem_mem hi)
    have hok : ∀ (A B : Bool), (decide ((i : Int) < (n.keys.length : Int)) || !((A && (n.kind == 3)) && B)) = true := by
      intro A B
      by_cases h3 : n.kind = 3
      · rw [dlt (show i < n.keys.length by have := hw.2.2.1 h3; omega)]; rfl
      · rw [eqF h3]; simp
    refine anyS (fun _ h => r18mounts_s0 h) ?_
    simp only [r18mounts_t0, dlt hi, d0, Bool.and_self, Bool.true_or, Bool.true_and, cond_true, gd n.kids _ i hi, node_eta, hk, r18mount_pr hk, hok, h3.ok (by omega), e1]
    generalize (bif !(r18mount_r1 n.kids[i]) then true else _) = c
    cases c with
    | true => exact ⟨(⟨0, [], [], []⟩, false), m1_no, rfl⟩
    | false => exact anyS (fun _ h => Gr_of h) (ih (i + 1) _ (by omega) (by omega) (h3.put (txtN_leaf _ _) (txtN_wg _ 0)))
theorem r18mounts_tot (n : Node) (hn : okN n = true) : ∃ p, r18mounts_any n p := by
  have flip : (∃ p, m1P p ∧ r18mounts_t (Gr E Tryz.f48 [⟨.api_Node, p.1⟩, ⟨.bool, p.2⟩]) n = some [⟨.api_Node, p.1⟩, ⟨.bool, p.2⟩]) → ∃ p, r18mounts_any n p := fun ⟨p, h1, h2⟩ => ⟨p, h2, h1⟩
  refine flip ?_
  simp only [r18mounts_t]
  by_cases h : (32 : Int) < (n.kids.length : Int)
  · rw [dT h]; exact ⟨(⟨0, [], [], []⟩, false), m1_no, rfl⟩
  · by_cases h2 : n.kind < 2
    · rw [dF h, dT h2]; exact ⟨(⟨0, [], [], []⟩, false), m1_no, rfl⟩
    · rw [dF h, dF h2]
      exact anyS (fun _ h => Gr_of h) (r18mounts_0 n hn (by omega) _ _ _ 0 ⟨0, [], [], []⟩ rfl (Nat.zero_le _) (Bq.nil (.inl rfl)))
theorem r18mounts_ok : FnOk E r18mounts_id r18mounts_W := r18mounts_ok_of fun n hk => (r18mounts_spec n (r18mounts_tot n hk)).1
theorem r18mounts_pr {n : Node} (hk : okN n = true) : m1P (r18mounts_p n) := (r18mounts_spec n (r18mounts_tot n hk)).2
end Go.Proofs.YtoelhlikomifjaaGreat.Rf