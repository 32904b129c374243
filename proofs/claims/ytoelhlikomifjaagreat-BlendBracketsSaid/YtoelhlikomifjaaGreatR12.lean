/- The reference's fields (18), by the Mirror: commands, variables, sets. -/
import Derived.Test.YtoelhlikomifjaaGreatR11
namespace Go.Proofs.YtoelhlikomifjaaGreat.Rf
open Go Go.RowKit Go.Sort Go.Proofs.YtoelhlikomifjaaGreat.Mir
/-! ### The reference's commands, variables, sets (18) -/
abbrev NB (f : Func) (Pr : Node × Bool → Prop) (j : Nat) (S : ASt E) : Prop := ∃ p : Node × Bool, Pr p ∧ Ev E f [⟨.api_Node, p.1⟩, ⟨.bool, p.2⟩] j S
def m1P (p : Node × Bool) : Prop := p.2 = true → M1 p.1
theorem hleaf : ∀ (k : List UInt8) (v : Node), leafK k v → k = ext ∨ pfits ((fun _ => Sh.leaf) k) v := fun _ _ h => .inr h
theorem m1_no : m1P (⟨0, [], [], []⟩, false) := fun h => by cases h
theorem done_fin {φ : List UInt8 → Node → Prop} {f : List UInt8 → Sh} (hf : ∀ k v, φ k v → k = ext ∨ pfits (f k) v) {d L : Nat} {o : Node} (h : Bq φ d L o) (hd : d ≤ 11) (b : Bool) {Pr : Node × Bool → Prop} (hM : ∀ x c, (c = true → pfits (.map f) x ∧ wg 10000 (d + 1) x = true) → Pr (x, c)) :
    ∃ p : Node × Bool, Pr p ∧ (bif okDn o b then some ([⟨.api_Node, doneV o b⟩, ⟨.bool, doneB o b⟩] : List (TV E)) else none) = some [⟨.api_Node, p.1⟩, ⟨.bool, p.2⟩] :=
  ⟨(doneV o b, doneB o b), hM _ _ (h.done_pr hf hd b), by rw [h.done_ok hd b]; rfl⟩
theorem done_m1 {L : Nat} {o : Node} (h : Bq leafK 1 L o) (b : Bool) : ∃ p : Node × Bool, m1P p ∧ (bif okDn o b then some ([⟨.api_Node, doneV o b⟩, ⟨.bool, doneB o b⟩] : List (TV E)) else none) = some [⟨.api_Node, p.1⟩, ⟨.bool, p.2⟩] :=
  done_fin hleaf h (by decide) b fun _ _ h => h
def wdsPr (_ : Node) (p : Node × Bool) : Prop := p.2 = true → p.1.kind = 2 ∧ wg 10000 2 p.1 = true
noncomputable def r18words_O : Oracle E := orac [(61, rwsplit_W), (58, r18text_W), (29, r18texts_W)] [] [] []
noncomputable def r18words_H : Hint E := Hint.mk [(0, [2, 4, 8, 9])] [] [(0, [(8, some 3, true, .api_Node)])] [] []
noncomputable def r18words_C0 (v0 : List (List UInt8)) (v1 : Int) (v2 : Int) (v3 : List UInt8) (v4 : Int) (v5 : List UInt8) (v6 : List Node) : ASt E := ASt.mk 48 [(2, .ptr 0 0), (4, .d (.slice .str v0)), (8, .ptr 1 0), (9, .d (.int .i64 v1))] [(0, .box [.d (.int .i64 v2), .d (.str v3), .d (.raw (.slice none 0 0)), .d (.raw (.slice none 0 0))]), (1, .box [.d (.int .i64 v4), .d (.str v5), .d (.raw (.slice none 0 0)), .grow .api_Node v6 2]), (2, .tail true)] 3
noncomputable def r18words_t (G : Nat → ASt E → Option (List (TV E))) (x0 : Node) : Option (List (TV E)) :=
  bif (okN (⟨x0.kind, x0.text, x0.keys, x0.kids⟩ : Node)) then (bif (x0.kind == (1 : Int)) then (bif (okL1 x0.text) then (bif (!((rwsplit_r1 x0.text) == (0 : Int))) then some [⟨.api_Node, (⟨(0 : Int), ([] : List UInt8), ([] : List (List UInt8)), ([] : List Node)⟩ : Node)⟩, ⟨.bool, false⟩] else G 0 (r18words_C0 (rwsplit_r0 x0.text) (0 : Int) (0 : Int) ([] : List UInt8) (2 : Int) ([] : List UInt8) ([] : List Node))) else none) else (bif (!(r18texts_r1 (⟨x0.kind, x0.text, x0.keys, x0.kids⟩ : Node))) then some [⟨.api_Node, (⟨(0 : Int), ([] : List UInt8), ([] : List (List UInt8)), ([] : List Node)⟩ : Node)⟩, ⟨.bool, false⟩] else G 0 (r18words_C0 (r18texts_r0 (⟨x0.kind, x0.text, x0.keys, x0.kids⟩ : Node)) (0 : Int) (0 : Int) ([] : List UInt8) (2 : Int) ([] : List UInt8) ([] : List Node)))) else none
theorem r18words_e (G : Nat → ASt E → Option (List (TV E))) (x0 : Node) : runE r18words_O r18words_H G Tryz.f45 [⟨.api_Node, x0⟩] = r18words_t G x0 := by kernel_rfl
noncomputable def r18words_t0 (G : Nat → ASt E → Option (List (TV E))) (v0 : List (List UInt8)) (v1 : Int) (v2 : Int) (v3 : List UInt8) (v4 : Int) (v5 : List UInt8) (v6 : List Node) : Option (List (TV E)) :=
  bif (decide (v1 < (v0.length : Int))) then (bif (decide ((0 : Int) ≤ v1) && decide (v1 < (v0.length : Int))) then (bif (decide ((v6.length + ([(txtN (List.getD v0 (Int.toNat v1) (dflt .str)))] : List Node).length) * 72 ≤ maxBytes)) then G 0 (r18words_C0 v0 (w64 (v1 + (1 : Int))) v2 v3 v4 v5 (v6 ++ ([(txtN (List.getD v0 (Int.toNat v1) (dflt .str)))] : List Node))) else none) else none) else some [⟨.api_Node, (⟨v4, v5, ([] : List (List UInt8)), v6⟩ : Node)⟩, ⟨.bool, true⟩]
theorem r18words_l0 (G : Nat → ASt E → Option (List (TV E))) (v0 : List (List UInt8)) (v1 : Int) (v2 : Int) (v3 : List UInt8) (v4 : Int) (v5 : List UInt8) (v6 : List Node) : runL r18words_O r18words_H G Tryz.f45 0 (r18words_C0 v0 v1 v2 v3 v4 v5 v6) = r18words_t0 G v0 v1 v2 v3 v4 v5 v6 := by kernel_rfl
theorem r18words_f : Tryz.prog.funcs[45]? = some Tryz.f45 := by kernel_rfl
theorem r18words_n : (Tryz.f45.name == "runtime.NumGoroutine") = false := by kernel_rfl
theorem r18words_b : Tryz.f45.body.isNone = false := by kernel_rfl
theorem r18words_ex : ∃ fn, Tryz.prog.funcs[45]? = some fn ∧ (fn.name == "runtime.NumGoroutine") = false ∧ fn.body.isNone = false := ⟨Tryz.f45, r18words_f, r18words_n, r18words_b⟩
theorem r18words_hO : OracleOk E r18words_O := orac_ok (.cons rwsplit_ok (.cons r18text_ok (.cons r18texts_ok .nil))) .nil .nil .nil
theorem r18words_s0 {res : List (TV E)} {v0 : List (List UInt8)} {v1 : Int} {v2 : Int} {v3 : List UInt8} {v4 : Int} {v5 : List UInt8} {v6 : List Node} (h : r18words_t0 (Gr E Tryz.f45 res) v0 v1 v2 v3 v4 v5 v6 = some res) : Ev E Tryz.f45 res 0 (r18words_C0 v0 v1 v2 v3 v4 v5 v6) := Ev.step r18words_hO mix ((r18words_l0 _ v0 v1 v2 v3 v4 v5 v6).trans h)
def r18words_any (x0 : Node) (p : Node × Bool) : Prop := r18words_t (Gr E Tryz.f45 [⟨.api_Node, p.1⟩, ⟨.bool, p.2⟩]) x0 = some [⟨.api_Node, p.1⟩, ⟨.bool, p.2⟩] ∧ wdsPr x0 p
noncomputable def r18words_p (x0 : Node) : Node × Bool := @Classical.epsilon _ ⟨(dflt .api_Node, dflt .bool)⟩ (r18words_any x0)
noncomputable def r18words_r0 (x0 : Node) : Node := (r18words_p x0).1
noncomputable def r18words_r1 (x0 : Node) : Bool := (r18words_p x0).2
theorem r18words_spec (x0 : Node) (h : ∃ p, r18words_any x0 p) : r18words_any x0 (r18words_p x0) := Classical.epsilon_spec h
noncomputable def r18words_W : FnW E := fn12 (E := E) .api_Node .api_Node .bool okN r18words_r0 r18words_r1
def r18words_id : FuncId := 45
theorem r18words_ok_of (h : ∀ (x0 : Node), okN x0 = true → r18words_t (Gr E Tryz.f45 [⟨.api_Node, r18words_r0 x0⟩, ⟨.bool, r18words_r1 x0⟩]) x0 = some [⟨.api_Node, r18words_r0 x0⟩, ⟨.bool, r18words_r1 x0⟩]) : FnOk E r18words_id r18words_W := fn12_ok r18words_hO mix r18words_f r18words_n r18words_b (fun x0 hk => (r18words_e _ x0).trans (h x0 hk))
theorem r18words_0 (n : Node) (l : List (List UInt8)) (hl : l.length ≤ 32) (u : Int) (t : List UInt8) : ∀ (m i : Nat) (out : List Node), l.length - i = m → i ≤ l.length → out.length = i → (∀ y ∈ out, wg 10000 1 y = true) →
    NB Tryz.f45 (wdsPr n) 0 (r18words_C0 l i u t 2 [] out) := by
  intro m
  induction m with
  | zero =>
    intro i out h1 h2 h3 h4
    refine anyS (fun _ h => r18words_s0 h) ?_
    simp only [r18words_t0, dge (show l.length ≤ i by omega), cond_false]
    exact ⟨(⟨2, [], [], out⟩, true), fun _ => ⟨rfl, wg_iff.2 ⟨by simp, by show out.length ≤ 10000; omega, (fun e => by cases e), h4⟩⟩, rfl⟩
  | succ m ih =>
    intro i out h1 h2 h3 h4
    have hi : i < l.length := by omega
    have e1 : w64 ((i : Int) + 1) = ((i + 1 : Nat) : Int) := by rw [w64_id (by omega) (by omega)]; omega
    refine anyS (fun _ h => r18words_s0 h) ?_
    simp only [r18words_t0, dlt hi, d0, Bool.and_self, cond_true, e1, gd l _ i hi]
    rw [dT (show (out.length + [txtN l[i]].length) * 72 ≤ maxBytes by rw [mb, List.length_singleton]; omega)]
    refine anyS (fun _ h => Gr_of h) (ih (i + 1) _ (by omega) (by omega) (by rw [List.length_append, List.length_singleton]; omega) fun y hy => ?_)
    rcases List.mem_append.1 hy with hy | hy
    · exact h4 y hy
    · rw [List.mem_singleton.1 hy]; exact txtN_wg _ 0
theorem r18words_tot (n : Node) (hn : okN n = true) : ∃ p, r18words_any n p := by
  have flip : (∃ p, wdsPr n p ∧ r18words_t (Gr E Tryz.f45 [⟨.api_Node, p.1⟩, ⟨.bool, p.2⟩]) n = some [⟨.api_Node, p.1⟩, ⟨.bool, p.2⟩]) → ∃ p, r18words_any n p := fun ⟨p, h1, h2⟩ => ⟨p, h2, h1⟩
  refine flip ?_
  have ht := (wf_iff.1 (okN_wf hn)).2.2.2.1
  have no : wdsPr n (⟨0, [], [], []⟩, false) := fun h => by cases h
  simp only [r18words_t, node_eta, hn, cond_true, okL1_iff.2 (show n.text.length ≤ 1000000 by omega)]
  cases n.kind == 1 with
  | true =>
    simp only [cond_true]
    cases rwsplit_r1 n.text == 0 with
    | false => exact ⟨(⟨0, [], [], []⟩, false), no, rfl⟩
    | true => exact anyS (fun _ h => Gr_of h) (r18words_0 n _ (rwsplit_pr (by omega)) _ _ _ 0 [] rfl (Nat.zero_le _) rfl (fun y hy => by cases hy))
  | false =>
    simp only [cond_false]
    cases r18texts_r1 n with
    | false => exact ⟨(⟨0, [], [], []⟩, false), no, rfl⟩
    | true => exact anyS (fun _ h => Gr_of h) (r18words_0 n _ (r18texts_pr hn).1 _ _ _ 0 [] rfl (Nat.zero_le _) rfl (fun y hy => by cases hy))
theorem r18words_ok : FnOk E r18words_id r18words_W := r18words_ok_of fun n hk => (r18words_spec n (r18words_tot n hk)).1
theorem r18words_pr {n : Node} (hk : okN n = true) : wdsPr n (r18words_p n) := (r18words_spec n (r18words_tot n hk)).2
def keyB (s : List UInt8) (b : Bool) : Bool := bif b then nameV badV s else nameV badS s
noncomputable def r18key_W : FnW E := fn2 (E := E) .str .bool .bool (fun _ _ => true) keyB
def r18key_id : FuncId := 62
noncomputable def r18key_O : Oracle E := orac [(26, rservice_W), (92, rvariable_W)] [] [] []
noncomputable def r18key_H : Hint E := Hint.mk [] [] [] [] []
noncomputable def r18key_t (_G : Nat → ASt E → Option (List (TV E))) (x0 : List UInt8) (x1 : Bool) : Option (List (TV E)) :=
  bif x1 then some [⟨.bool, ((nameV badV) x0)⟩] else some [⟨.bool, ((nameV badS) x0)⟩]
theorem r18key_e (G : Nat → ASt E → Option (List (TV E))) (x0 : List UInt8) (x1 : Bool) : runE r18key_O r18key_H G Tryz.f62 [⟨.str, x0⟩, ⟨.bool, x1⟩] = r18key_t G x0 x1 := by kernel_rfl
theorem r18key_f : Tryz.prog.funcs[62]? = some Tryz.f62 := by kernel_rfl
theorem r18key_n : (Tryz.f62.name == "runtime.NumGoroutine") = false := by kernel_rfl
theorem r18key_b : Tryz.f62.body.isNone = false := by kernel_rfl
theorem r18key_ex : ∃ fn, Tryz.prog.funcs[62]? = some fn ∧ (fn.name == "runtime.NumGoroutine") = false ∧ fn.body.isNone = false := ⟨Tryz.f62, r18key_f, r18key_n, r18key_b⟩
theorem r18key_hO : OracleOk E r18key_O := orac_ok (.cons rservice_ok (.cons rvariable_ok .nil)) .nil .nil .nil
theorem r18key_ok_of (h : ∀ (x0 : List UInt8) (x1 : Bool), r18key_t (Gr E Tryz.f62 [⟨.bool, keyB x0 x1⟩]) x0 x1 = some [⟨.bool, keyB x0 x1⟩]) : FnOk E r18key_id r18key_W := fn2_ok r18key_hO mix r18key_f r18key_n r18key_b (fun x0 x1 _ => (r18key_e _ x0 x1).trans (h x0 x1))
theorem r18key_ok : FnOk E r18key_id r18key_W := r18key_ok_of fun s b => by cases b <;> rfl
def okPr (n : Node) (_ : Bool) : Bool := okN n
def prsPr (_ : Node) (_ : Bool) (p : Node × Bool) : Prop := m1P p
noncomputable def r18pairs_O : Oracle E := orac [(63, rin_W), (17, rwith_W), (58, r18text_W), (30, r18done_W), (62, r18key_W), (29, r18texts_W)] [] [] []
noncomputable def r18pairs_H : Hint E := Hint.mk [(0, [1, 4, 6, 7, 9]), (1, [1, 4, 6, 7, 9, 10]), (2, [1, 2, 4, 6, 13])] [] [(0, [(6, some 2, false, .str), (6, some 3, false, .api_Node)]), (2, [(6, some 2, false, .str), (6, some 3, false, .api_Node)])] [] []
noncomputable def r18pairs_C0 (v0 : Bool) (v1 : List (List UInt8)) (v2 : Int) (v3 : Int) (v4 : List UInt8) (v5 : Int) (v6 : List UInt8) (v7 : List (List UInt8)) (v8 : List Node) : ASt E := ASt.mk 132 [(1, .d (.bool v0)), (4, .ptr 0 0), (6, .ptr 1 0), (7, .d (.slice .str v1)), (9, .d (.int .i64 v2))] [(0, .box [.d (.int .i64 v3), .d (.str v4), .d (.raw (.slice none 0 0)), .d (.raw (.slice none 0 0))]), (1, .box [.d (.int .i64 v5), .d (.str v6), .d (.slice .str v7), .d (.slice .api_Node v8)])] 2
noncomputable def r18pairs_C1 (v0 : Bool) (v1 : List (List UInt8)) (v2 : Int) (v3 : Int) (v4 : Int) (v5 : List UInt8) (v6 : Int) (v7 : List UInt8) (v8 : List (List UInt8)) (v9 : List Node) : ASt E := ASt.mk 132 [(1, .d (.bool v0)), (4, .ptr 0 0), (6, .ptr 1 0), (7, .d (.slice .str v1)), (9, .d (.int .i64 v2)), (10, .d (.int .i64 v3))] [(0, .box [.d (.int .i64 v4), .d (.str v5), .d (.raw (.slice none 0 0)), .d (.raw (.slice none 0 0))]), (1, .box [.d (.int .i64 v6), .d (.str v7), .d (.slice .str v8), .d (.slice .api_Node v9)])] 2
noncomputable def r18pairs_C2 (v0 : Bool) (v1 : Int) (v2 : Int) (v3 : List UInt8) (v4 : List (List UInt8)) (v5 : List Node) (v6 : Int) (v7 : List UInt8) (v8 : Int) (v9 : List UInt8) (v10 : List (List UInt8)) (v11 : List Node) : ASt E := ASt.mk 132 [(1, .d (.bool v0)), (2, .ptr 0 0), (4, .ptr 1 0), (6, .ptr 2 0), (13, .d (.int .i64 v1))] [(0, .box [.d (.int .i64 v2), .d (.str v3), .d (.slice .str v4), .d (.slice .api_Node v5)]), (1, .box [.d (.int .i64 v6), .d (.str v7), .d (.raw (.slice none 0 0)), .d (.raw (.slice none 0 0))]), (2, .box [.d (.int .i64 v8), .d (.str v9), .d (.slice .str v10), .d (.slice .api_Node v11)])] 3
noncomputable def r18pairs_t (G : Nat → ASt E → Option (List (TV E))) (x0 : Node) (x1 : Bool) : Option (List (TV E)) :=
  bif (okN (⟨x0.kind, x0.text, x0.keys, x0.kids⟩ : Node)) then (bif (r18texts_r1 (⟨x0.kind, x0.text, x0.keys, x0.kids⟩ : Node)) then G 0 (r18pairs_C0 x1 (r18texts_r0 (⟨x0.kind, x0.text, x0.keys, x0.kids⟩ : Node)) (0 : Int) (0 : Int) ([] : List UInt8) (0 : Int) ([] : List UInt8) ([] : List (List UInt8)) ([] : List Node)) else (bif (x0.kind != (3 : Int)) then some [⟨.api_Node, (⟨(0 : Int), ([] : List UInt8), ([] : List (List UInt8)), ([] : List Node)⟩ : Node)⟩, ⟨.bool, false⟩] else G 2 (r18pairs_C2 x1 (0 : Int) x0.kind x0.text x0.keys x0.kids (0 : Int) ([] : List UInt8) (0 : Int) ([] : List UInt8) ([] : List (List UInt8)) ([] : List Node)))) else none
theorem r18pairs_e (G : Nat → ASt E → Option (List (TV E))) (x0 : Node) (x1 : Bool) : runE r18pairs_O r18pairs_H G Tryz.f46 [⟨.api_Node, x0⟩, ⟨.bool, x1⟩] = r18pairs_t G x0 x1 := by kernel_rfl
noncomputable def r18pairs_t0 (G : Nat → ASt E → Option (List (TV E))) (v0 : Bool) (v1 : List (List UInt8)) (v2 : Int) (v3 : Int) (v4 : List UInt8) (v5 : Int) (v6 : List UInt8) (v7 : List (List UInt8)) (v8 : List Node) : Option (List (TV E)) :=
  bif (decide (v2 < (v1.length : Int))) then G 1 (r18pairs_C1 v0 v1 v2 (0 : Int) v3 v4 v5 v6 v7 v8) else (bif (okDn (⟨v5, v6, v7, v8⟩ : Node) true) then some [⟨.api_Node, (⟨(doneV (⟨v5, v6, v7, v8⟩ : Node) true).kind, (doneV (⟨v5, v6, v7, v8⟩ : Node) true).text, (doneV (⟨v5, v6, v7, v8⟩ : Node) true).keys, (doneV (⟨v5, v6, v7, v8⟩ : Node) true).kids⟩ : Node)⟩, ⟨.bool, (doneB (⟨v5, v6, v7, v8⟩ : Node) true)⟩] else none)
theorem r18pairs_l0 (G : Nat → ASt E → Option (List (TV E))) (v0 : Bool) (v1 : List (List UInt8)) (v2 : Int) (v3 : Int) (v4 : List UInt8) (v5 : Int) (v6 : List UInt8) (v7 : List (List UInt8)) (v8 : List Node) : runL r18pairs_O r18pairs_H G Tryz.f46 0 (r18pairs_C0 v0 v1 v2 v3 v4 v5 v6 v7 v8) = r18pairs_t0 G v0 v1 v2 v3 v4 v5 v6 v7 v8 := by kernel_rfl
noncomputable def r18pairs_t1 (G : Nat → ASt E → Option (List (TV E))) (v0 : Bool) (v1 : List (List UInt8)) (v2 : Int) (v3 : Int) (v4 : Int) (v5 : List UInt8) (v6 : Int) (v7 : List UInt8) (v8 : List (List UInt8)) (v9 : List Node) : Option (List (TV E)) :=
  bif (decide ((0 : Int) ≤ v2) && decide (v2 < (v1.length : Int))) then (bif ((decide ((0 : Int) ≤ v2) && decide (v2 < (v1.length : Int))) || !(decide (v3 < ((List.getD v1 (Int.toNat v2) (dflt .str)).length : Int)))) then (bif ((decide ((0 : Int) ≤ v3) && decide (v3 < ((List.getD v1 (Int.toNat v2) (dflt .str)).length : Int))) || !(decide (v3 < ((List.getD v1 (Int.toNat v2) (dflt .str)).length : Int)))) then (bif (bif (decide (v3 < ((List.getD v1 (Int.toNat v2) (dflt .str)).length : Int))) then ((((List.getD (List.getD v1 (Int.toNat v2) (dflt .str)) (Int.toNat v3) 0).toNat : Nat) : Int) != (61 : Int)) else false) then G 1 (r18pairs_C1 v0 v1 v2 (w64 (v3 + (1 : Int))) v4 v5 v6 v7 v8 v9) else (bif (decide ((0 : Int) ≤ v2) && decide (v2 < (v1.length : Int))) then (bif (decide (v3 < ((List.getD v1 (Int.toNat v2) (dflt .str)).length : Int))) then (bif (decide ((0 : Int) ≤ v2) && decide (v2 < (v1.length : Int))) then (bif (decide ((0 : Int) ≤ (w64 (v3 + (1 : Int)))) && decide ((w64 (v3 + (1 : Int))) ≤ ((List.getD v1 (Int.toNat v2) (dflt .str)).length : Int)) && decide (((List.getD v1 (Int.toNat v2) (dflt .str)).length : Int) ≤ ((List.getD v1 (Int.toNat v2) (dflt .str)).length : Int))) then (bif (decide ((0 : Int) ≤ v2) && decide (v2 < (v1.length : Int))) then (bif (decide ((0 : Int) ≤ (0 : Int)) && decide ((0 : Int) ≤ v3) && decide (v3 ≤ ((List.getD v1 (Int.toNat v2) (dflt .str)).length : Int))) then (bif (((fun l _ => ln6 l) v8 (List.take (Int.toNat v3 - Int.toNat (0 : Int)) (List.drop (Int.toNat (0 : Int)) (List.getD v1 (Int.toNat v2) (dflt .str))))) || !(!(!(keyB (List.take (Int.toNat v3 - Int.toNat (0 : Int)) (List.drop (Int.toNat (0 : Int)) (List.getD v1 (Int.toNat v2) (dflt .str)))) v0)))) then (bif (bif (!(keyB (List.take (Int.toNat v3 - Int.toNat (0 : Int)) (List.drop (Int.toNat (0 : Int)) (List.getD v1 (Int.toNat v2) (dflt .str)))) v0)) then true else (inV v8 (List.take (Int.toNat v3 - Int.toNat (0 : Int)) (List.drop (Int.toNat (0 : Int)) (List.getD v1 (Int.toNat v2) (dflt .str)))))) then some [⟨.api_Node, (⟨(0 : Int), ([] : List UInt8), ([] : List (List UInt8)), ([] : List Node)⟩ : Node)⟩, ⟨.bool, false⟩] else (bif (okWi (⟨v6, v7, v8, v9⟩ : Node) (List.take (Int.toNat v3 - Int.toNat (0 : Int)) (List.drop (Int.toNat (0 : Int)) (List.getD v1 (Int.toNat v2) (dflt .str)))) (txtN (List.take (Int.toNat ((List.getD v1 (Int.toNat v2) (dflt .str)).length : Int) - Int.toNat (w64 (v3 + (1 : Int)))) (List.drop (Int.toNat (w64 (v3 + (1 : Int)))) (List.getD v1 (Int.toNat v2) (dflt .str)))))) then G 0 (r18pairs_C0 v0 v1 (w64 (v2 + (1 : Int))) v4 v5 ((withV (⟨v6, v7, v8, v9⟩ : Node) (List.take (Int.toNat v3 - Int.toNat (0 : Int)) (List.drop (Int.toNat (0 : Int)) (List.getD v1 (Int.toNat v2) (dflt .str)))) (txtN (List.take (Int.toNat ((List.getD v1 (Int.toNat v2) (dflt .str)).length : Int) - Int.toNat (w64 (v3 + (1 : Int)))) (List.drop (Int.toNat (w64 (v3 + (1 : Int)))) (List.getD v1 (Int.toNat v2) (dflt .str)))))).kind) ((withV (⟨v6, v7, v8, v9⟩ : Node) (List.take (Int.toNat v3 - Int.toNat (0 : Int)) (List.drop (Int.toNat (0 : Int)) (List.getD v1 (Int.toNat v2) (dflt .str)))) (txtN (List.take (Int.toNat ((List.getD v1 (Int.toNat v2) (dflt .str)).length : Int) - Int.toNat (w64 (v3 + (1 : Int)))) (List.drop (Int.toNat (w64 (v3 + (1 : Int)))) (List.getD v1 (Int.toNat v2) (dflt .str)))))).text) ((withV (⟨v6, v7, v8, v9⟩ : Node) (List.take (Int.toNat v3 - Int.toNat (0 : Int)) (List.drop (Int.toNat (0 : Int)) (List.getD v1 (Int.toNat v2) (dflt .str)))) (txtN (List.take (Int.toNat ((List.getD v1 (Int.toNat v2) (dflt .str)).length : Int) - Int.toNat (w64 (v3 + (1 : Int)))) (List.drop (Int.toNat (w64 (v3 + (1 : Int)))) (List.getD v1 (Int.toNat v2) (dflt .str)))))).keys) ((withV (⟨v6, v7, v8, v9⟩ : Node) (List.take (Int.toNat v3 - Int.toNat (0 : Int)) (List.drop (Int.toNat (0 : Int)) (List.getD v1 (Int.toNat v2) (dflt .str)))) (txtN (List.take (Int.toNat ((List.getD v1 (Int.toNat v2) (dflt .str)).length : Int) - Int.toNat (w64 (v3 + (1 : Int)))) (List.drop (Int.toNat (w64 (v3 + (1 : Int)))) (List.getD v1 (Int.toNat v2) (dflt .str)))))).kids)) else none)) else none) else none) else none) else none) else none) else (bif (decide ((0 : Int) ≤ v2) && decide (v2 < (v1.length : Int))) then (bif (decide ((0 : Int) ≤ (0 : Int)) && decide ((0 : Int) ≤ v3) && decide (v3 ≤ ((List.getD v1 (Int.toNat v2) (dflt .str)).length : Int))) then (bif (((fun l _ => ln6 l) v8 (List.take (Int.toNat v3 - Int.toNat (0 : Int)) (List.drop (Int.toNat (0 : Int)) (List.getD v1 (Int.toNat v2) (dflt .str))))) || !(!(!(keyB (List.take (Int.toNat v3 - Int.toNat (0 : Int)) (List.drop (Int.toNat (0 : Int)) (List.getD v1 (Int.toNat v2) (dflt .str)))) v0)))) then (bif (bif (!(keyB (List.take (Int.toNat v3 - Int.toNat (0 : Int)) (List.drop (Int.toNat (0 : Int)) (List.getD v1 (Int.toNat v2) (dflt .str)))) v0)) then true else (inV v8 (List.take (Int.toNat v3 - Int.toNat (0 : Int)) (List.drop (Int.toNat (0 : Int)) (List.getD v1 (Int.toNat v2) (dflt .str)))))) then some [⟨.api_Node, (⟨(0 : Int), ([] : List UInt8), ([] : List (List UInt8)), ([] : List Node)⟩ : Node)⟩, ⟨.bool, false⟩] else (bif (okWi (⟨v6, v7, v8, v9⟩ : Node) (List.take (Int.toNat v3 - Int.toNat (0 : Int)) (List.drop (Int.toNat (0 : Int)) (List.getD v1 (Int.toNat v2) (dflt .str)))) (txtN ([] : List UInt8))) then G 0 (r18pairs_C0 v0 v1 (w64 (v2 + (1 : Int))) v4 v5 ((withV (⟨v6, v7, v8, v9⟩ : Node) (List.take (Int.toNat v3 - Int.toNat (0 : Int)) (List.drop (Int.toNat (0 : Int)) (List.getD v1 (Int.toNat v2) (dflt .str)))) (txtN ([] : List UInt8))).kind) ((withV (⟨v6, v7, v8, v9⟩ : Node) (List.take (Int.toNat v3 - Int.toNat (0 : Int)) (List.drop (Int.toNat (0 : Int)) (List.getD v1 (Int.toNat v2) (dflt .str)))) (txtN ([] : List UInt8))).text) ((withV (⟨v6, v7, v8, v9⟩ : Node) (List.take (Int.toNat v3 - Int.toNat (0 : Int)) (List.drop (Int.toNat (0 : Int)) (List.getD v1 (Int.toNat v2) (dflt .str)))) (txtN ([] : List UInt8))).keys) ((withV (⟨v6, v7, v8, v9⟩ : Node) (List.take (Int.toNat v3 - Int.toNat (0 : Int)) (List.drop (Int.toNat (0 : Int)) (List.getD v1 (Int.toNat v2) (dflt .str)))) (txtN ([] : List UInt8))).kids)) else none)) else none) else none) else none)) else none)) else none) else none) else none
theorem r18pairs_l1 (G : Nat → ASt E → Option (List (TV E))) (v0 : Bool) (v1 : List (List UInt8)) (v2 : Int) (v3 : Int) (v4 : Int) (v5 : List UInt8) (v6 : Int) (v7 : List UInt8) (v8 : List (List UInt8)) (v9 : List Node) : runL r18pairs_O r18pairs_H G Tryz.f46 1 (r18pairs_C1 v0 v1 v2 v3 v4 v5 v6 v7 v8 v9) = r18pairs_t1 G v0 v1 v2 v3 v4 v5 v6 v7 v8 v9 := by kernel_rfl
noncomputable def r18pairs_t2 (G : Nat → ASt E → Option (List (TV E))) (v0 : Bool) (v1 : Int) (v2 : Int) (v3 : List UInt8) (v4 : List (List UInt8)) (v5 : List Node) (v6 : Int) (v7 : List UInt8) (v8 : Int) (v9 : List UInt8) (v10 : List (List UInt8)) (v11 : List Node) : Option (List (TV E)) :=
  bif (decide (v1 < (v4.length : Int))) then (bif (decide ((0 : Int) ≤ v1) && decide (v1 < (v4.length : Int))) then (bif ((decide ((0 : Int) ≤ v1) && decide (v1 < (v5.length : Int))) || !(!(!(keyB (List.getD v4 (Int.toNat v1) (dflt .str)) v0)))) then (bif (bif (!(keyB (List.getD v4 (Int.toNat v1) (dflt .str)) v0)) then true else (decide ((1 : Int) < (List.getD v5 (Int.toNat v1) (dflt .api_Node)).kind))) then some [⟨.api_Node, (⟨(0 : Int), ([] : List UInt8), ([] : List (List UInt8)), ([] : List Node)⟩ : Node)⟩, ⟨.bool, false⟩] else (bif (decide ((0 : Int) ≤ v1) && decide (v1 < (v4.length : Int))) then (bif (decide ((0 : Int) ≤ v1) && decide (v1 < (v5.length : Int))) then (bif (okWi (⟨v8, v9, v10, v11⟩ : Node) (List.getD v4 (Int.toNat v1) (dflt .str)) (txtN ((List.getD v5 (Int.toNat v1) (dflt .api_Node)).text))) then G 2 (r18pairs_C2 v0 (w64 (v1 + (1 : Int))) v2 v3 v4 v5 v6 v7 ((withV (⟨v8, v9, v10, v11⟩ : Node) (List.getD v4 (Int.toNat v1) (dflt .str)) (txtN ((List.getD v5 (Int.toNat v1) (dflt .api_Node)).text))).kind) ((withV (⟨v8, v9, v10, v11⟩ : Node) (List.getD v4 (Int.toNat v1) (dflt .str)) (txtN ((List.getD v5 (Int.toNat v1) (dflt .api_Node)).text))).text) ((withV (⟨v8, v9, v10, v11⟩ : Node) (List.getD v4 (Int.toNat v1) (dflt .str)) (txtN ((List.getD v5 (Int.toNat v1) (dflt .api_Node)).text))).keys) ((withV (⟨v8, v9, v10, v11⟩ : Node) (List.getD v4 (Int.toNat v1) (dflt .str)) (txtN ((List.getD v5 (Int.toNat v1) (dflt .api_Node)).text))).kids)) else none) else none) else none)) else none) else none) else (bif (okDn (⟨v8, v9, v10, v11⟩ : Node) true) then some [⟨.api_Node, (⟨(doneV (⟨v8, v9, v10, v11⟩ : Node) true).kind, (doneV (⟨v8, v9, v10, v11⟩ : Node) true).text, (doneV (⟨v8, v9, v10, v11⟩ : Node) true).keys, (doneV (⟨v8, v9, v10, v11⟩ : Node) true).kids⟩ : Node)⟩, ⟨.bool, (doneB (⟨v8, v9, v10, v11⟩ : Node) true)⟩] else none)
theorem r18pairs_l2 (G : Nat → ASt E → Option (List (TV E))) (v0 : Bool) (v1 : Int) (v2 : Int) (v3 : List UInt8) (v4 : List (List UInt8)) (v5 : List Node) (v6 : Int) (v7 : List UInt8) (v8 : Int) (v9 : List UInt8) (v10 : List (List UInt8)) (v11 : List Node) : runL r18pairs_O r18pairs_H G Tryz.f46 2 (r18pairs_C2 v0 v1 v2 v3 v4 v5 v6 v7 v8 v9 v10 v11) = r18pairs_t2 G v0 v1 v2 v3 v4 v5 v6 v7 v8 v9 v10 v11 := by kernel_rfl
theorem r18pairs_f : Tryz.prog.funcs[46]? = some Tryz.f46 := by kernel_rfl
theorem r18pairs_n : (Tryz.f46.name == "runtime.NumGoroutine") = false := by kernel_rfl
theorem r18pairs_b : Tryz.f46.body.isNone = false := by kernel_rfl
theorem r18pairs_ex : ∃ fn, Tryz.prog.funcs[46]? = some fn ∧ (fn.name == "runtime.NumGoroutine") = false ∧ fn.body.isNone = false := ⟨Tryz.f46, r18pairs_f, r18pairs_n, r18pairs_b⟩
theorem r18pairs_hO : OracleOk E r18pairs_O := orac_ok (.cons rin_ok (.cons rwith_ok (.cons r18text_ok (.cons r18done_ok (.cons r18key_ok (.cons r18texts_ok .nil)))))) .nil .nil .nil
theorem r18pairs_s0 {res : List (TV E)} {v0 : Bool} {v1 : List (List UInt8)} {v2 : Int} {v3 : Int} {v4 : List UInt8} {v5 : Int} {v6 : List UInt8} {v7 : List (List UInt8)} {v8 : List Node} (h : r18pairs_t0 (Gr E Tryz.f46 res) v0 v1 v2 v3 v4 v5 v6 v7 v8 = some res) : Ev E Tryz.f46 res 0 (r18pairs_C0 v0 v1 v2 v3 v4 v5 v6 v7 v8) := Ev.step r18pairs_hO mix ((r18pairs_l0 _ v0 v1 v2 v3 v4 v5 v6 v7 v8).trans h)
theorem r18pairs_s1 {res : List (TV E)} {v0 : Bool} {v1 : List (List UInt8)} {v2 : Int} {v3 : Int} {v4 : Int} {v5 : List UInt8} {v6 : Int} {v7 : List UInt8} {v8 : List (List UInt8)} {v9 : List Node} (h : r18pairs_t1 (Gr E Tryz.f46 res) v0 v1 v2 v3 v4 v5 v6 v7 v8 v9 = some res) : Ev E Tryz.f46 res 1 (r18pairs_C1 v0 v1 v2 v3 v4 v5 v6 v7 v8 v9) := Ev.step r18pairs_hO mix ((r18pairs_l1 _ v0 v1 v2 v3 v4 v5 v6 v7 v8 v9).trans h)
theorem r18pairs_s2 {res : List (TV E)} {v0 : Bool} {v1 : Int} {v2 : Int} {v3 : List UInt8} {v4 : List (List UInt8)} {v5 : List Node} {v6 : Int} {v7 : List UInt8} {v8 : Int} {v9 : List UInt8} {v10 : List (List UInt8)} {v11 : List Node} (h : r18pairs_t2 (Gr E Tryz.f46 res) v0 v1 v2 v3 v4 v5 v6 v7 v8 v9 v10 v11 = some res) : Ev E Tryz.f46 res 2 (r18pairs_C2 v0 v1 v2 v3 v4 v5 v6 v7 v8 v9 v10 v11) := Ev.step r18pairs_hO mix ((r18pairs_l2 _ v0 v1 v2 v3 v4 v5 v6 v7 v8 v9 v10 v11).trans h)
def r18pairs_any (x0 : Node) (x1 : Bool) (p : Node × Bool) : Prop := r18pairs_t (Gr E Tryz.f46 [⟨.api_Node, p.1⟩, ⟨.bool, p.2⟩]) x0 x1 = some [⟨.api_Node, p.1⟩, ⟨.bool, p.2⟩] ∧ prsPr x0 x1 p
noncomputable def r18pairs_p (x0 : Node) (x1 : Bool) : Node × Bool := @Classical.epsilon _ ⟨(dflt .api_Node, dflt .bool)⟩ (r18pairs_any x0 x1)
noncomputable def r18pairs_r0 (x0 : Node) (x1 : Bool) : Node := (r18pairs_p x0 x1).1
noncomputable def r18pairs_r1 (x0 : Node) (x1 : Bool) : Bool := (r18pairs_p x0 x1).2
theorem r18pairs_spec (x0 : Node) (x1 : Bool) (h : ∃ p, r18pairs_any x0 x1 p) : r18pairs_any x0 x1 (r18pairs_p x0 x1) := Classical.epsilon_spec h
noncomputable def r18pairs_W : FnW E := fn22 (E := E) .api_Node .bool .api_Node .bool okPr r18pairs_r0 r18pairs_r1
def r18pairs_id : FuncId := 46
theorem r18pairs_ok_of (h : ∀ (x0 : Node) (x1 : Bool), okPr x0 x1 = true → r18pairs_t (Gr E Tryz.f46 [⟨.api_Node, r18pairs_r0 x0 x1⟩, ⟨.bool, r18pairs_r1 x0 x1⟩]) x0 x1 = some [⟨.api_Node, r18pairs_r0 x0 x1⟩, ⟨.bool, r18pairs_r1 x0 x1⟩]) : FnOk E r18pairs_id r18pairs_W := fn22_ok r18pairs_hO mix r18pairs_f r18pairs_n r18pairs_b (fun x0 x1 hk => (r18pairs_e _ x0 x1).trans (h x0 x1 hk))
theorem txtN_leaf (s k : List UInt8) : leafK k (txtN s) := by show (1 : Int) ≠ 3; decide
theorem r18pairs_1 (vars : Bool) (l : List (List UInt8)) (hl : l.length ≤ 32) (i : Nat) (hi : i < l.length) (hx : l[i].length ≤ 200) (u : Int) (t : List UInt8) (o : Node) (ho : Bq leafK 1 i o)
    (K : ∀ o', Bq leafK 1 (i + 1) o' → NB Tryz.f46 m1P 0 (r18pairs_C0 vars l ((i + 1 : Nat) : Int) u t o'.kind o'.text o'.keys o'.kids)) :
    ∀ (m a : Nat), l[i].length - a = m → a ≤ l[i].length → NB Tryz.f46 m1P 1 (r18pairs_C1 vars l i a u t o.kind o.text o.keys o.kids) := by
  have e1 : w64 ((i : Int) + 1) = ((i + 1 : Nat) : Int) := by rw [w64_id (by omega) (by omega)]; omega
  have oL : ln6 o.keys = true := ln6_iff.2 (by have := ho.len; omega)
  have oW := ho.ok (by omega)
  have stop : ∀ (a : Nat), a ≤ l[i].length → (bif decide ((a : Int) < (l[i].length : Int)) then ((List.getD l[i] a 0).toNat : Int) != 61 else false) = false → ((decide ((a : Int) < (l[i].length : Int))) || !(decide ((a : Int) < (l[i].length : Int)))) = true →
      NB Tryz.f46 m1P 1 (r18pairs_C1 vars l i a u t o.kind o.text o.keys o.kids) := by
    intro a ha h1 h2
    refine anyS (fun _ h => r18pairs_s1 h) ?_
    simp only [r18pairs_t1, dlt hi, d0, d00, Bool.and_self, Bool.true_or, Bool.true_and, cond_true, gd l _ i hi]
    simp only [Int.toNat_natCast, h1, h2, cond_true, cond_false, dle ha, cutT, oL, Bool.true_or, node_eta, oW, e1]
    by_cases hlt : a < l[i].length
    · have e2 : w64 ((a : Int) + 1) = ((a + 1 : Nat) : Int) := by rw [w64_id (by omega) (by omega)]; omega
      simp only [dlt hlt, cond_true, e2, d0, dle (show a + 1 ≤ l[i].length by omega), dlr, Bool.and_self, Int.toNat_natCast, cutN]
      cases (bif !(keyB (l[i].take a) vars) then true else inV o.keys (l[i].take a)) with
      | true => exact ⟨(⟨0, [], [], []⟩, false), m1_no, rfl⟩
      | false => exact anyS (fun _ h => Gr_of h) (K _ (ho.put (txtN_leaf _ _) (txtN_wg _ 0)))
    · simp only [dge (show l[i].length ≤ a by omega), cond_false]
      cases (bif !(keyB (l[i].take a) vars) then true else inV o.keys (l[i].take a)) with
      | true => exact ⟨(⟨0, [], [], []⟩, false), m1_no, rfl⟩
      | false => exact anyS (fun _ h => Gr_of h) (K _ (ho.put (txtN_leaf _ _) (txtN_wg _ 0)))
  intro m
  induction m with
  | zero =>
    intro a h1 h2
    have hd := dge (show l[i].length ≤ a by omega)
    exact stop a h2 (by rw [hd]; rfl) (by rw [hd]; rfl)
  | succ m ih =>
    intro a h1 h2
    have ha : a < l[i].length := by omega
    have hd := dlt ha
    cases hq : ((List.getD l[i] a 0).toNat : Int) != 61 with
    | false => exact stop a h2 (by rw [hd, hq]; rfl) (by rw [hd]; rfl)
    | true =>
      have e2 : w64 ((a : Int) + 1) = ((a + 1 : Nat) : Int) := by rw [w64_id (by omega) (by omega)]; omega
      refine anyS (fun _ h => r18pairs_s1 h) ?_
      simp only [r18pairs_t1, dlt hi, d0, d00, Bool.and_self, Bool.true_or, Bool.true_and, cond_true, gd l _ i hi]
      simp only [Int.toNat_natCast, hd, Bool.true_or, cond_true, hq, e2]
      exact anyS (fun _ h => Gr_of h) (ih (a + 1) (by omega) (by omega))
theorem r18pairs_0 (vars : Bool) (l : List (List UInt8)) (hl : l.length ≤ 32) (hx : ∀ x ∈ l, x.length ≤ 200) (u : Int) (t : List UInt8) : ∀ (m i : Nat) (o : Node), l.length - i = m → i ≤ l.length → Bq leafK 1 i o →
    NB Tryz.f46 m1P 0 (r18pairs_C0 vars l i u t o.kind o.text o.keys o.kids) := by
  intro m
  induction m with
  | zero =>
    intro i o h1 h2 h3
    refine anyS (fun _ h => r18pairs_s0 h) ?_
    simp only [r18pairs_t0, dge (show l.length ≤ i by omega), cond_false, node_eta]
    exact done_m1 h3 true
  | succ m ih =>
    intro i o h1 h2 h3
    have hi : i < l.length := by omega
    refine anyS (fun _ h => r18pairs_s0 h) ?_
    simp only [r18pairs_t0, dlt hi, cond_true]
    exact anyS (fun _ h => Gr_of h) (r18pairs_1 vars l hl i hi (hx _ (List.getElem_mem hi)) u t o h3 (fun o' ho' => ih (i + 1) o' (by omega) (by omega) ho') _ 0 rfl (Nat.zero_le _))
theorem r18pairs_2 (vars : Bool) (n : Node) (hn : okN n = true) (h3 : n.kind = 3) (u2 : Int) (u3 : List UInt8) (u : Int) (t : List UInt8) : ∀ (m i : Nat) (o : Node), n.keys.length - i = m → i ≤ n.keys.length → Bq leafK 1 i o →
    NB Tryz.f46 m1P 2 (r18pairs_C2 vars i u2 u3 n.keys n.kids u t o.kind o.text o.keys o.kids) := by
  have hw := wf_iff.1 (okN_wf hn)
  have hl := hw.2.2.1 h3
  intro m
  induction m with
  | zero =>
    intro i o h1 h2 h4
    refine anyS (fun _ h => r18pairs_s2 h) ?_
    simp only [r18pairs_t2, dge (show n.keys.length ≤ i by omega), cond_false, node_eta]
    exact done_m1 h4 true
  | succ m ih =>
    intro i o h1 h2 h4
    have hi : i < n.keys.length := by omega
    have hj : i < n.kids.length := by omega
    have e1 : w64 ((i : Int) + 1) = ((i + 1 : Nat) : Int) := by rw [w64_id (by omega) (by omega)]; omega
    refine anyS (fun _ h => r18pairs_s2 h) ?_
    simp only [r18pairs_t2, dlt hi, dlt hj, d0, Bool.and_self, Bool.true_or, cond_true, gd n.keys _ i hi, gd n.kids _ i hj, node_eta, h4.ok (by omega), e1]
    cases (bif !(keyB n.keys[i] vars) then true else decide ((1 : Int) < n.kids[i].kind)) with
    | true => exact ⟨(⟨0, [], [], []⟩, false), m1_no, rfl⟩
    | false => exact anyS (fun _ h => Gr_of h) (ih (i + 1) _ (by omega) (by omega) (h4.put (txtN_leaf _ _) (txtN_wg _ 0)))
theorem r18pairs_tot (n : Node) (vars : Bool) (hn : okN n = true) : ∃ p, r18pairs_any n vars p := by
  have flip : (∃ p, m1P p ∧ r18pairs_t (Gr E Tryz.f46 [⟨.api_Node, p.1⟩, ⟨.bool, p.2⟩]) n vars = some [⟨.api_Node, p.1⟩, ⟨.bool, p.2⟩]) → ∃ p, r18pairs_any n vars p := fun ⟨p, h1, h2⟩ => ⟨p, h2, h1⟩
  refine flip ?_
  have z : Bq leafK 1 0 ⟨0, [], [], []⟩ := Bq.nil (.inl rfl)
  simp only [r18pairs_t, node_eta, hn, cond_true]
  cases r18texts_r1 n with
  | true => exact anyS (fun _ h => Gr_of h) (r18pairs_0 vars _ (r18texts_pr hn).1 (r18texts_pr hn).2 _ _ _ 0 ⟨0, [], [], []⟩ rfl (Nat.zero_le _) z)
  | false =>
    simp only [cond_false]
    by_cases h3 : n.kind = 3
    · rw [neF h3]; exact anyS (fun _ h => Gr_of h) (r18pairs_2 vars n hn h3 _ _ _ _ _ 0 ⟨0, [], [], []⟩ rfl (Nat.zero_le _) z)
    · rw [neT h3]; exact ⟨(⟨0, [], [], []⟩, false), m1_no, rfl⟩
theorem r18pairs_ok : FnOk E r18pairs_id r18pairs_W := r18pairs_ok_of fun n b hk => (r18pairs_spec n b (r18pairs_tot n b hk)).1
theorem r18pairs_pr {n : Node} (b : Bool) (hk : okN n = true) : m1P (r18pairs_p n b) := (r18pairs_spec n b (r18pairs_tot n b hk)).2
def setPr (_ : Node) (p : Node × Bool) : Prop := m1P p
noncomputable def r18set_O : Oracle E := orac [(26, rservice_W), (17, rwith_W), (30, r18done_W), (29, r18texts_W)] [] [] []
noncomputable def r18set_H : Hint E := Hint.mk [(0, [1, 2, 4, 5, 6]), (1, [2, 4, 5, 7, 8])] [] [(1, [(7, some 2, false, .str), (7, some 3, false, .api_Node)])] [] []
noncomputable def r18set_C0 (v0 : List (List UInt8)) (v1 : Bool) (v2 : Int) (v3 : Int) (v4 : List UInt8) (v5 : List (List UInt8)) (v6 : List Node) (v7 : Int) (v8 : List UInt8) : ASt E := ASt.mk 85 [(1, .ptr 0 0), (2, .ptr 1 0), (4, .d (.slice .str v0)), (5, .d (.bool v1)), (6, .d (.int .i64 v2))] [(0, .box [.d (.int .i64 v3), .d (.str v4), .d (.slice .str v5), .d (.slice .api_Node v6)]), (1, .box [.d (.int .i64 v7), .d (.str v8), .d (.raw (.slice none 0 0)), .d (.raw (.slice none 0 0))])] 2
noncomputable def r18set_C1 (v0 : List (List UInt8)) (v1 : Bool) (v2 : Int) (v3 : Int) (v4 : List UInt8) (v5 : Int) (v6 : List UInt8) (v7 : List (List UInt8)) (v8 : List Node) : ASt E := ASt.mk 85 [(2, .ptr 0 0), (4, .d (.slice .str v0)), (5, .d (.bool v1)), (7, .ptr 1 0), (8, .d (.int .i64 v2))] [(0, .box [.d (.int .i64 v3), .d (.str v4), .d (.raw (.slice none 0 0)), .d (.raw (.slice none 0 0))]), (1, .box [.d (.int .i64 v5), .d (.str v6), .d (.slice .str v7), .d (.slice .api_Node v8)])] 2
noncomputable def r18set_t (G : Nat → ASt E → Option (List (TV E))) (x0 : Node) : Option (List (TV E)) :=
  bif (okN (⟨x0.kind, x0.text, x0.keys, x0.kids⟩ : Node)) then (bif (bif (x0.kind == (3 : Int)) then (decide ((x0.keys.length : Int) ≤ (32 : Int))) else false) then G 0 (r18set_C0 x0.keys true (0 : Int) x0.kind x0.text x0.keys x0.kids (0 : Int) ([] : List UInt8)) else G 1 (r18set_C1 (r18texts_r0 (⟨x0.kind, x0.text, x0.keys, x0.kids⟩ : Node)) (r18texts_r1 (⟨x0.kind, x0.text, x0.keys, x0.kids⟩ : Node)) (0 : Int) (0 : Int) ([] : List UInt8) (0 : Int) ([] : List UInt8) ([] : List (List UInt8)) ([] : List Node))) else none
theorem r18set_e (G : Nat → ASt E → Option (List (TV E))) (x0 : Node) : runE r18set_O r18set_H G Tryz.f16 [⟨.api_Node, x0⟩] = r18set_t G x0 := by kernel_rfl
noncomputable def r18set_t0 (G : Nat → ASt E → Option (List (TV E))) (v0 : List (List UInt8)) (v1 : Bool) (v2 : Int) (v3 : Int) (v4 : List UInt8) (v5 : List (List UInt8)) (v6 : List Node) (v7 : Int) (v8 : List UInt8) : Option (List (TV E)) :=
  bif (decide (v2 < (v6.length : Int))) then (bif (decide ((0 : Int) ≤ v2) && decide (v2 < (v6.length : Int))) then (bif ((decide ((0 : Int) ≤ v2) && decide (v2 < (v6.length : Int))) || !((List.getD v6 (Int.toNat v2) (dflt .api_Node)).kind != (0 : Int))) then (bif ((decide ((0 : Int) ≤ v2) && decide (v2 < (v6.length : Int))) || !(((List.getD v6 (Int.toNat v2) (dflt .api_Node)).kind != (0 : Int)) && (!((List.getD v6 (Int.toNat v2) (dflt .api_Node)).kind != (3 : Int))))) then (bif (bif ((List.getD v6 (Int.toNat v2) (dflt .api_Node)).kind != (0 : Int)) then (bif ((List.getD v6 (Int.toNat v2) (dflt .api_Node)).kind != (3 : Int)) then true else (decide ((0 : Int) < (((List.getD v6 (Int.toNat v2) (dflt .api_Node)).keys).length : Int)))) else false) then G 0 (r18set_C0 v0 false (w64 (v2 + (1 : Int))) v3 v4 v5 v6 v7 v8) else G 0 (r18set_C0 v0 v1 (w64 (v2 + (1 : Int))) v3 v4 v5 v6 v7 v8)) else none) else none) else none) else G 1 (r18set_C1 v0 v1 (0 : Int) v7 v8 (0 : Int) ([] : List UInt8) ([] : List (List UInt8)) ([] : List Node))
theorem r18set_l0 (G : Nat → ASt E → Option (List (TV E))) (v0 : List (List UInt8)) (v1 : Bool) (v2 : Int) (v3 : Int) (v4 : List UInt8) (v5 : List (List UInt8)) (v6 : List Node) (v7 : Int) (v8 : List UInt8) : runL r18set_O r18set_H G Tryz.f16 0 (r18set_C0 v0 v1 v2 v3 v4 v5 v6 v7 v8) = r18set_t0 G v0 v1 v2 v3 v4 v5 v6 v7 v8 := by kernel_rfl
noncomputable def r18set_t1 (G : Nat → ASt E → Option (List (TV E))) (v0 : List (List UInt8)) (v1 : Bool) (v2 : Int) (v3 : Int) (v4 : List UInt8) (v5 : Int) (v6 : List UInt8) (v7 : List (List UInt8)) (v8 : List Node) : Option (List (TV E)) :=
  bif (bif (decide (v2 < (v0.length : Int))) then v1 else false) then (bif (decide ((0 : Int) ≤ v2) && decide (v2 < (v0.length : Int))) then (bif (decide ((0 : Int) ≤ v2) && decide (v2 < (v0.length : Int))) then (bif (okWi (⟨v5, v6, v7, v8⟩ : Node) (List.getD v0 (Int.toNat v2) (dflt .str)) (⟨(0 : Int), ([] : List UInt8), ([] : List (List UInt8)), ([] : List Node)⟩ : Node)) then G 1 (r18set_C1 v0 ((nameV badS) (List.getD v0 (Int.toNat v2) (dflt .str))) (w64 (v2 + (1 : Int))) v3 v4 ((withV (⟨v5, v6, v7, v8⟩ : Node) (List.getD v0 (Int.toNat v2) (dflt .str)) (⟨(0 : Int), ([] : List UInt8), ([] : List (List UInt8)), ([] : List Node)⟩ : Node)).kind) ((withV (⟨v5, v6, v7, v8⟩ : Node) (List.getD v0 (Int.toNat v2) (dflt .str)) (⟨(0 : Int), ([] : List UInt8), ([] : List (List UInt8)), ([] : List Node)⟩ : Node)).text) ((withV (⟨v5, v6, v7, v8⟩ : Node) (List.getD v0 (Int.toNat v2) (dflt .str)) (⟨(0 : Int), ([] : List UInt8), ([] : List (List UInt8)), ([] : List Node)⟩ : Node)).keys) ((withV (⟨v5, v6, v7, v8⟩ : Node) (List.getD v0 (Int.toNat v2) (dflt .str)) (⟨(0 : Int), ([] : List UInt8), ([] : List (List UInt8)), ([] : List Node)⟩ : Node)).kids)) else none) else none) else none) else (bif (okDn (⟨v5, v6, v7, v8⟩ : Node) v1) then some [⟨.api_Node, (⟨(doneV (⟨v5, v6, v7, v8⟩ : Node) v1).kind, (doneV (⟨v5, v6, v7, v8⟩ : Node) v1).text, (doneV (⟨v5, v6, v7, v8⟩ : Node) v1).keys, (doneV (⟨v5, v6, v7, v8⟩ : Node) v1).kids⟩ : Node)⟩, ⟨.bool, (doneB (⟨v5, v6, v7, v8⟩ : Node) v1)⟩] else none)
theorem r18set_l1 (G : Nat → ASt E → Option (List (TV E))) (v0 : List (List UInt8)) (v1 : Bool) (v2 : Int) (v3 : Int) (v4 : List UInt8) (v5 : Int) (v6 : List UInt8) (v7 : List (List UInt8)) (v8 : List Node) : runL r18set_O r18set_H G Tryz.f16 1 (r18set_C1 v0 v1 v2 v3 v4 v5 v6 v7 v8) = r18set_t1 G v0 v1 v2 v3 v4 v5 v6 v7 v8 := by kernel_rfl
theorem r18set_f : Tryz.prog.funcs[16]? = some Tryz.f16 := by kernel_rfl
theorem r18set_n : (Tryz.f16.name == "runtime.NumGoroutine") = false := by kernel_rfl
theorem r18set_b : Tryz.f16.body.isNone = false := by kernel_rfl
theorem r18set_ex : ∃ fn, Tryz.prog.funcs[16]? = some fn ∧ (fn.name == "runtime.NumGoroutine") = false ∧ fn.body.isNone = false := ⟨Tryz.f16, r18set_f, r18set_n, r18set_b⟩
theorem r18set_hO : OracleOk E r18set_O := orac_ok (.cons rservice_ok (.cons rwith_ok (.cons r18done_ok (.cons r18texts_ok .nil)))) .nil .nil .nil
theorem r18set_s0 {res : List (TV E)} {v0 : List (List UInt8)} {v1 : Bool} {v2 : Int} {v3 : Int} {v4 : List UInt8} {v5 : List (List UInt8)} {v6 : List Node} {v7 : Int} {v8 : List UInt8} (h : r18set_t0 (Gr E Tryz.f16 res) v0 v1 v2 v3 v4 v5 v6 v7 v8 = some res) : Ev E Tryz.f16 res 0 (r18set_C0 v0 v1 v2 v3 v4 v5 v6 v7 v8) := Ev.step r18set_hO mix ((r18set_l0 _ v0 v1 v2 v3 v4 v5 v6 v7 v8).trans h)
theorem r18set_s1 {res : List (TV E)} {v0 : List (List UInt8)} {v1 : Bool} {v2 : Int} {v3 : Int} {v4 : List UInt8} {v5 : Int} {v6 : List UInt8} {v7 : List (List UInt8)} {v8 : List Node} (h : r18set_t1 (Gr E Tryz.f16 res) v0 v1 v2 v3 v4 v5 v6 v7 v8 = some res) : Ev E Tryz.f16 res 1 (r18set_C1 v0 v1 v2 v3 v4 v5 v6 v7 v8) := Ev.step r18set_hO mix ((r18set_l1 _ v0 v1 v2 v3 v4 v5 v6 v7 v8).trans h)
def r18set_any (x0 : Node) (p : Node × Bool) : Prop := r18set_t (Gr E Tryz.f16 [⟨.api_Node, p.1⟩, ⟨.bool, p.2⟩]) x0 = some [⟨.api_Node, p.1⟩, ⟨.bool, p.2⟩] ∧ setPr x0 p
noncomputable def r18set_p (x0 : Node) : Node × Bool := @Classical.epsilon _ ⟨(dflt .api_Node, dflt .bool)⟩ (r18set_any x0)
noncomputable def r18set_r0 (x0 : Node) : Node := (r18set_p x0).1
noncomputable def r18set_r1 (x0 : Node) : Bool := (r18set_p x0).2
theorem r18set_spec (x0 : Node) (h : ∃ p, r18set_any x0 p) : r18set_any x0 (r18set_p x0) := Classical.epsilon_spec h
noncomputable def r18set_W : FnW E := fn12 (E := E) .api_Node .api_Node .bool okN r18set_r0 r18set_r1
def r18set_id : FuncId := 16
theorem r18set_ok_of (h : ∀ (x0 : Node), okN x0 = true → r18set_t (Gr E Tryz.f16 [⟨.api_Node, r18set_r0 x0⟩, ⟨.bool, r18set_r1 x0⟩]) x0 = some [⟨.api_Node, r18set_r0 x0⟩, ⟨.bool, r18set_r1 x0⟩]) : FnOk E r18set_id r18set_W := fn12_ok r18set_hO mix r18set_f r18set_n r18set_b (fun x0 hk => (r18set_e _ x0).trans (h x0 hk))
theorem zn_leaf (k : List UInt8) : leafK k (⟨0, [], [], []⟩ : Node) := by show (0 : Int) ≠ 3; decide
theorem r18set_1 (l : List (List UInt8)) (hl : l.length ≤ 1000) (u : Int) (t : List UInt8) : ∀ (m i : Nat) (b : Bool) (o : Node), l.length - i = m → i ≤ l.length → Bq leafK 1 i o →
    NB Tryz.f16 m1P 1 (r18set_C1 l b i u t o.kind o.text o.keys o.kids) := by
  intro m
  induction m with
  | zero =>
    intro i b o h1 h2 h3
    refine anyS (fun _ h => r18set_s1 h) ?_
    simp only [r18set_t1, dge (show l.length ≤ i by omega), cond_false, node_eta]
    exact done_m1 h3 b
  | succ m ih =>
    intro i b o h1 h2 h3
    have hi : i < l.length := by omega
    have e1 : w64 ((i : Int) + 1) = ((i + 1 : Nat) : Int) := by rw [w64_id (by omega) (by omega)]; omega
    refine anyS (fun _ h => r18set_s1 h) ?_
    simp only [r18set_t1, dlt hi, d0, Bool.and_self, cond_true, gd l _ i hi, node_eta, h3.ok (by omega), e1]
    cases b with
    | false => exact done_m1 h3 false
    | true => exact anyS (fun _ h => Gr_of h) (ih (i + 1) _ _ (by omega) (by omega) (h3.put (zn_leaf _) (zn_wg 0)))
theorem r18set_0 (n : Node) (hn : okN n = true) (l : List (List UInt8)) (hl : l.length ≤ 1000) (u3 : Int) (u4 : List UInt8) (ks : List (List UInt8)) (u : Int) (t : List UInt8) : ∀ (m i : Nat) (b : Bool), n.kids.length - i = m → i ≤ n.kids.length →
    NB Tryz.f16 m1P 0 (r18set_C0 l b i u3 u4 ks n.kids u t) := by
  have hw := wf_iff.1 (okN_wf hn)
  intro m
  induction m with
  | zero =>
    intro i b h1 h2
    refine anyS (fun _ h => r18set_s0 h) ?_
    simp only [r18set_t0, dge (show n.kids.length ≤ i by omega), cond_false]
    exact anyS (fun _ h => Gr_of h) (r18set_1 l hl _ _ _ 0 b ⟨0, [], [], []⟩ rfl (Nat.zero_le _) (Bq.nil (.inl rfl)))
  | succ m ih =>
    intro i b h1 h2
    have hi : i < n.kids.length := by omega
    have e1 : w64 ((i : Int) + 1) = ((i + 1 : Nat) : Int) := by rw [w64_id (by omega) (by omega)]; omega
    refine anyS (fun _ h => r18set_s0 h) ?_
    simp only [r18set_t0, dlt hi, d0, Bool.and_self, Bool.true_or, cond_true, gd n.kids _ i hi, e1]
    cases (bif n.kids[i].kind != 0 then (bif n.kids[i].kind != 3 then true else decide ((0 : Int) < (n.kids[i].keys.length : Int))) else false) <;> exact anyS (fun _ h => Gr_of h) (ih (i + 1) _ (by omega) (by omega))
theorem r18set_tot (n : Node) (hn : okN n = true) : ∃ p, r18set_any n p := by
  have flip : (∃ p, m1P p ∧ r18set_t (Gr E Tryz.f16 [⟨.api_Node, p.1⟩, ⟨.bool, p.2⟩]) n = some [⟨.api_Node, p.1⟩, ⟨.bool, p.2⟩]) → ∃ p, r18set_any n p := fun ⟨p, h1, h2⟩ => ⟨p, h2, h1⟩
  refine flip ?_
  have hw := wf_iff.1 (okN_wf hn)
  simp only [r18set_t, node_eta, hn, cond_true]
  cases (bif n.kind == 3 then decide ((n.keys.length : Int) ≤ 32) else false) with
  | true => exact anyS (fun _ h => Gr_of h) (r18set_0 n hn _ (by omega) _ _ _ _ _ _ 0 true rfl (Nat.zero_le _))
  | false => exact anyS (fun _ h => Gr_of h) (r18set_1 _ (by have := (r18texts_pr hn).1; omega) _ _ _ 0 _ ⟨0, [], [], []⟩ rfl (Nat.zero_le _) (Bq.nil (.inl rfl)))
theorem r18set_ok : FnOk E r18set_id r18set_W := r18set_ok_of fun n hk => (r18set_spec n (r18set_tot n hk)).1
theorem r18set_pr {n : Node} (hk : okN n = true) : m1P (r18set_p n) := (r18set_spec n (r18set_tot n hk)).2
end Go.Proofs.YtoelhlikomifjaaGreat.Rf