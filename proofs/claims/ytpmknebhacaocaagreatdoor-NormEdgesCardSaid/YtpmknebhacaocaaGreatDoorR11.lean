/- The reference's fields (18), by the Mirror: rows of texts, and maps that are done. -/
import Derived.Test.YtpmknebhacaocaaGreatDoorR10
namespace Go.Proofs.YtpmknebhacaocaaGreatDoor.Rf
open Go Go.RowKit Go.Sort Go.Proofs.YtpmknebhacaocaaGreatDoor.Mir
/-! ### The reference's fields (18) -/
theorem wf_deep {B : Nat} : ∀ {n : Nat} {x : Node} (k : Nat), wf B n x = true → wf B (n + k) x = true
  | 0, _, _, h => by cases h
  | n + 1, x, k, h => by
    have := wf_iff.1 h
    rw [Nat.add_right_comm]
    exact wf_iff.2 ⟨this.1, this.2.1, this.2.2.1, this.2.2.2.1, this.2.2.2.2.1, fun y hy => wf_deep k (this.2.2.2.2.2 y hy)⟩
/-- Kinds that there are. -/
def kd : Nat → Node → Bool
  | 0, _ => false
  | n + 1, x => decide (0 ≤ x.kind) && decide (x.kind ≤ 3) && decide (x.kind ≠ 3 → x.keys.length = 0) && decide (x.kind < 2 → x.kids.length = 0) && x.kids.all (kd n)
theorem kd_iff {n : Nat} {x : Node} : kd (n + 1) x = true ↔ ((0 ≤ x.kind ∧ x.kind ≤ 3) ∧ (x.kind ≠ 3 → x.keys.length = 0)) ∧ (x.kind < 2 → x.kids.length = 0) ∧ ∀ y ∈ x.kids, kd n y = true := by
  simp only [kd, Bool.and_eq_true, decide_eq_true_eq, List.all_eq_true]
  exact ⟨fun ⟨⟨h1, h2⟩, h3⟩ => ⟨h1, h2, h3⟩, fun ⟨h1, h2, h3⟩ => ⟨⟨h1, h2⟩, h3⟩⟩
theorem kd_deep : ∀ {n : Nat} {x : Node} (k : Nat), kd n x = true → kd (n + k) x = true
  | 0, _, _, h => by cases h
  | n + 1, x, k, h => by
    have := kd_iff.1 h
    rw [Nat.add_right_comm]
    exact kd_iff.2 ⟨this.1, this.2.1, fun y hy => kd_deep k (this.2.2 y hy)⟩
/-- A node as it comes in. -/
def okNd (d : Nat) (n : Node) : Bool := wf 200 d n && kd d n
def okN (n : Node) : Bool := wf 200 11 n && kd 11 n
theorem okN_mk {n : Node} (h : wf 200 11 n = true) (h' : kd 11 n = true) : okN n = true := by simp only [okN, h, h', Bool.and_self]
theorem okN_wf {n : Node} (h : okN n = true) : wf 200 11 n = true := by simp only [okN, Bool.and_eq_true] at h; exact h.1
theorem okN_kd {n : Node} (h : okN n = true) : kd 11 n = true := by simp only [okN, Bool.and_eq_true] at h; exact h.2
theorem okN_kid {n y : Node} (h : okN n = true) (hy : y ∈ n.kids) : okN y = true :=
  okN_mk (wf_deep 1 ((wf_iff.1 (okN_wf h)).2.2.2.2.2 y hy)) (kd_deep 1 ((kd_iff.1 (okN_kd h)).2.2 y hy))
theorem okN_get {n : Node} {k : List UInt8} (h : okN n = true) : okN (getV n k) = true := by
  cases hg : getB n k with
  | true => exact okN_kid h (getV_mem hg)
  | false =>
    have : getV n k = zn := by
      unfold getB at hg
      unfold getV
      cases hq : get n k with
      | none => rfl
      | some x => rw [hq] at hg; cases hg
    rw [this]; rfl
theorem okN_wg {n : Node} (h : okN n = true) : wg 10000 11 n = true := wg_up (by decide) (wf_wg (okN_wf h))
structure Bq (φ : List UInt8 → Node → Prop) (d L : Nat) (x : Node) : Prop where
  bld : Bld φ x
  kids : ∀ y ∈ x.kids, wg 10000 d y = true
  len : x.keys.length ≤ L
theorem Bq.nil {φ : List UInt8 → Node → Prop} {d L : Nat} {k : Int} (hk : k = 0 ∨ k = 3) : Bq φ d L ⟨k, [], [], []⟩ := ⟨Bld.nil hk, (fun y h => by cases h), Nat.zero_le _⟩
theorem Bq.put {φ : List UInt8 → Node → Prop} {d L : Nat} {x : Node} (h : Bq φ d L x) {k : List UInt8} {v : Node} (hv : φ k v) (hw : wg 10000 d v = true) : Bq φ d (L + 1) (withV x k v) := by
  obtain ⟨_, _, h3, h4⟩ := withV_fit (k := k) (v := v) h.bld.kind h.bld.len
  exact ⟨h.bld.withV hv, fun y hy => (h4 y hy).elim (fun e => by rw [e]; exact hw) (h.kids y), by have := h.len; omega⟩
theorem Bq.ok {φ : List UInt8 → Node → Prop} {d L : Nat} {x : Node} (h : Bq φ d L x) (hL : L ≤ 100000) (k : List UInt8) (v : Node) : okWi x k v = true := okWi_iff.2 ⟨by have := h.len; omega, h.bld.len⟩
theorem Bq.wg_ {φ : List UInt8 → Node → Prop} {d L : Nat} {x : Node} (h : Bq φ d L x) (hL : x.keys.length ≤ 10000) (k : Int) : wg 10000 (d + 1) ⟨k, x.text, x.keys, x.kids⟩ = true :=
  wg_iff.2 ⟨hL, by show x.kids.length ≤ 10000; rw [← h.bld.len]; exact hL, fun _ => h.bld.len, h.kids⟩
theorem Bq.fits_ {φ : List UInt8 → Node → Prop} {f : List UInt8 → Sh} (hf : ∀ k v, φ k v → k = ext ∨ pfits (f k) v) {d L : Nat} {x : Node} (h : Bq φ d L x) : pfits (.map f) ⟨3, x.text, x.keys, x.kids⟩ :=
  ⟨⟨rfl, h.bld.text⟩, h.bld.len, fun k v hk => hf k v (h.bld.val k v hk)⟩
def leafK (_ : List UInt8) (v : Node) : Prop := v.kind ≠ 3
def txtN (s : List UInt8) : Node := ⟨1, s, [], []⟩
theorem txtN_wg (s : List UInt8) (d : Nat) : wg 10000 (d + 1) (txtN s) = true := by simp [txtN, wg]
theorem zn_wg (d : Nat) : wg 10000 (d + 1) (⟨0, [], [], []⟩ : Node) = true := by simp [wg]
def M1 (x : Node) : Prop := pfits (.map fun _ => .leaf) x ∧ wg 10000 2 x = true
def M2 (x : Node) : Prop := pfits (.map fun _ => .map fun _ => .leaf) x ∧ wg 10000 3 x = true
noncomputable def r18text_W : FnW E := fn1 (E := E) .str .api_Node (fun _ => true) txtN
def r18text_id : FuncId := 85
noncomputable def r18text_O : Oracle E := orac [] [] [] []
noncomputable def r18text_H : Hint E := Hint.mk [] [] [] [] []
noncomputable def r18text_t (_G : Nat → ASt E → Option (List (TV E))) (x0 : List UInt8) : Option (List (TV E)) :=
  some [⟨.api_Node, (⟨(1 : Int), x0, ([] : List (List UInt8)), ([] : List Node)⟩ : Node)⟩]
theorem r18text_e (G : Nat → ASt E → Option (List (TV E))) (x0 : List UInt8) : runE r18text_O r18text_H G Tryz.f85 [⟨.str, x0⟩] = r18text_t G x0 := by kernel_rfl
theorem r18text_f : Tryz.prog.funcs[85]? = some Tryz.f85 := by kernel_rfl
theorem r18text_n : (Tryz.f85.name == "runtime.NumGoroutine") = false := by kernel_rfl
theorem r18text_b : Tryz.f85.body.isNone = false := by kernel_rfl
theorem r18text_ex : ∃ fn, Tryz.prog.funcs[85]? = some fn ∧ (fn.name == "runtime.NumGoroutine") = false ∧ fn.body.isNone = false := ⟨Tryz.f85, r18text_f, r18text_n, r18text_b⟩
theorem r18text_hO : OracleOk E r18text_O := orac_ok .nil .nil .nil .nil
theorem r18text_ok_of (h : ∀ (x0 : List UInt8), r18text_t (Gr E Tryz.f85 [⟨.api_Node, txtN x0⟩]) x0 = some [⟨.api_Node, txtN x0⟩]) : FnOk E r18text_id r18text_W := fn1_ok r18text_hO mix r18text_f r18text_n r18text_b (fun x0 _ => (r18text_e _ x0).trans (h x0))
theorem r18text_ok : FnOk E r18text_id r18text_W := r18text_ok_of fun s => rfl
def txsPr (_ : Node) (p : List (List UInt8) × Bool) : Prop := p.1.length ≤ 32 ∧ ∀ x ∈ p.1, x.length ≤ 200
noncomputable def r18texts_O : Oracle E := orac [] [] [] []
noncomputable def r18texts_H : Hint E := Hint.mk [(0, [1, 4, 5])] [] [] [] []
noncomputable def r18texts_C0 (v0 : Nat) (v1 : Int) (v2 : Int) (v3 : List UInt8) (v4 : List (List UInt8)) (v5 : List Node) (v6 : List (List UInt8)) : ASt E := ASt.mk 42 [(1, .ptr 0 0), (4, .row .str v0 1), (5, .d (.int .i64 v1))] [(0, .box [.d (.int .i64 v2), .d (.str v3), .d (.slice .str v4), .d (.slice .api_Node v5)]), (1, .row .str v6)] 2
noncomputable def r18texts_t (G : Nat → ASt E → Option (List (TV E))) (x0 : Node) : Option (List (TV E)) :=
  bif (bif (x0.kind != (2 : Int)) then true else (decide ((32 : Int) < (x0.kids.length : Int)))) then some [⟨.l_str, ([] : List (List UInt8))⟩, ⟨.bool, false⟩] else G 0 (r18texts_C0 0 (0 : Int) x0.kind x0.text x0.keys x0.kids ([] : List (List UInt8)))
theorem r18texts_e (G : Nat → ASt E → Option (List (TV E))) (x0 : Node) : runE r18texts_O r18texts_H G Tryz.f88 [⟨.api_Node, x0⟩] = r18texts_t G x0 := by kernel_rfl
noncomputable def r18texts_t0 (G : Nat → ASt E → Option (List (TV E))) (_v0 : Nat) (v1 : Int) (v2 : Int) (v3 : List UInt8) (v4 : List (List UInt8)) (v5 : List Node) (v6 : List (List UInt8)) : Option (List (TV E)) :=
  bif (decide (v1 < (v5.length : Int))) then (bif (decide ((0 : Int) ≤ v1) && decide (v1 < (v5.length : Int))) then (bif ((List.getD v5 (Int.toNat v1) (dflt .api_Node)).kind != (1 : Int)) then some [⟨.l_str, v6⟩, ⟨.bool, false⟩] else (bif (decide ((0 : Int) ≤ v1) && decide (v1 < (v5.length : Int))) then (bif (decide ((v6.length + ([(List.getD v5 (Int.toNat v1) (dflt .api_Node)).text] : List (List UInt8)).length) * 16 ≤ maxBytes)) then G 0 (r18texts_C0 (v6.length + ([(List.getD v5 (Int.toNat v1) (dflt .api_Node)).text] : List (List UInt8)).length) (w64 (v1 + (1 : Int))) v2 v3 v4 v5 (v6 ++ ([(List.getD v5 (Int.toNat v1) (dflt .api_Node)).text] : List (List UInt8)))) else none) else none)) else none) else some [⟨.l_str, v6⟩, ⟨.bool, true⟩]
theorem r18texts_l0 (G : Nat → ASt E → Option (List (TV E))) (v0 : Nat) (v1 : Int) (v2 : Int) (v3 : List UInt8) (v4 : List (List UInt8)) (v5 : List Node) (v6 : List (List UInt8)) : runL r18texts_O r18texts_H G Tryz.f88 0 (r18texts_C0 v0 v1 v2 v3 v4 v5 v6) = r18texts_t0 G v0 v1 v2 v3 v4 v5 v6 := by kernel_rfl
theorem r18texts_f : Tryz.prog.funcs[88]? = some Tryz.f88 := by kernel_rfl
theorem r18texts_n : (Tryz.f88.name == "runtime.NumGoroutine") = false := by kernel_rfl
theorem r18texts_b : Tryz.f88.body.isNone = false := by kernel_rfl
theorem r18texts_ex : ∃ fn, Tryz.prog.funcs[88]? = some fn ∧ (fn.name == "runtime.NumGoroutine") = false ∧ fn.body.isNone = false := ⟨Tryz.f88, r18texts_f, r18texts_n, r18texts_b⟩
theorem r18texts_hO : OracleOk E r18texts_O := orac_ok .nil .nil .nil .nil
theorem r18texts_s0 {res : List (TV E)} {v0 : Nat} {v1 : Int} {v2 : Int} {v3 : List UInt8} {v4 : List (List UInt8)} {v5 : List Node} {v6 : List (List UInt8)} (h : r18texts_t0 (Gr E Tryz.f88 res) v0 v1 v2 v3 v4 v5 v6 = some res) : Ev E Tryz.f88 res 0 (r18texts_C0 v0 v1 v2 v3 v4 v5 v6) := Ev.step r18texts_hO mix ((r18texts_l0 _ v0 v1 v2 v3 v4 v5 v6).trans h)
def r18texts_any (x0 : Node) (p : (List (List UInt8)) × Bool) : Prop := r18texts_t (Gr E Tryz.f88 [⟨.l_str, p.1⟩, ⟨.bool, p.2⟩]) x0 = some [⟨.l_str, p.1⟩, ⟨.bool, p.2⟩] ∧ txsPr x0 p
noncomputable def r18texts_p (x0 : Node) : (List (List UInt8)) × Bool := @Classical.epsilon _ ⟨(dflt .l_str, dflt .bool)⟩ (r18texts_any x0)
noncomputable def r18texts_r0 (x0 : Node) : List (List UInt8) := (r18texts_p x0).1
noncomputable def r18texts_r1 (x0 : Node) : Bool := (r18texts_p x0).2
theorem r18texts_spec (x0 : Node) (h : ∃ p, r18texts_any x0 p) : r18texts_any x0 (r18texts_p x0) := Classical.epsilon_spec h
noncomputable def r18texts_W : FnW E := fn12 (E := E) .api_Node .l_str .bool okN r18texts_r0 r18texts_r1
def r18texts_id : FuncId := 88
theorem r18texts_ok_of (h : ∀ (x0 : Node), okN x0 = true → r18texts_t (Gr E Tryz.f88 [⟨.l_str, r18texts_r0 x0⟩, ⟨.bool, r18texts_r1 x0⟩]) x0 = some [⟨.l_str, r18texts_r0 x0⟩, ⟨.bool, r18texts_r1 x0⟩]) : FnOk E r18texts_id r18texts_W := fn12_ok r18texts_hO mix r18texts_f r18texts_n r18texts_b (fun x0 hk => (r18texts_e _ x0).trans (h x0 hk))
theorem r18texts_0 (n : Node) (hn : okN n = true) (h32 : n.kids.length ≤ 32) (u : Int) (t : List UInt8) (ks : List (List UInt8)) : ∀ (m i v : Nat) (out : List (List UInt8)), n.kids.length - i = m → i ≤ n.kids.length → out.length = i → (∀ x ∈ out, x.length ≤ 200) →
    ∃ p : List (List UInt8) × Bool, txsPr n p ∧ Ev E Tryz.f88 [⟨.l_str, p.1⟩, ⟨.bool, p.2⟩] 0 (r18texts_C0 v i u t ks n.kids out) := by
  intro m
  induction m with
  | zero =>
    intro i v out h1 h2 h3 h4
    refine anyS (fun _ h => r18texts_s0 h) ?_
    simp only [r18texts_t0, dge (show n.kids.length ≤ i by omega), cond_false]
    exact ⟨(out, true), ⟨by simp only; omega, h4⟩, rfl⟩
  | succ m ih =>
    intro i v out h1 h2 h3 h4
    have hi : i < n.kids.length := by omega
    have e1 : w64 ((i : Int) + 1) = ((i + 1 : Nat) : Int) := by rw [w64_id (by omega) (by omega)]; omega
    have hk := wf_iff.1 (okN_wf (okN_kid hn (List.getElem_mem hi)))
    refine anyS (fun _ h => r18texts_s0 h) ?_
    simp only [r18texts_t0, dlt hi, d0, Bool.and_self, cond_true, e1, gd n.kids _ i hi]
    rw [dT (show (out.length + [n.kids[i].text].length) * 16 ≤ maxBytes by rw [mb, List.length_singleton]; omega)]
    cases n.kids[i].kind != 1 with
    | true => exact ⟨(out, false), ⟨by simp only; omega, h4⟩, rfl⟩
    | false =>
      refine anyS (fun _ h => Gr_of h) (ih (i + 1) _ _ (by omega) (by omega) (by rw [List.length_append, List.length_singleton]; omega) fun x hx => ?_)
      rcases List.mem_append.1 hx with hx | hx
      · exact h4 x hx
      · rw [List.mem_singleton.1 hx]; exact hk.2.2.2.1
theorem r18texts_tot (n : Node) (hn : okN n = true) : ∃ p, r18texts_any n p := by
  have flip : (∃ p, txsPr n p ∧ r18texts_t (Gr E Tryz.f88 [⟨.l_str, p.1⟩, ⟨.bool, p.2⟩]) n = some [⟨.l_str, p.1⟩, ⟨.bool, p.2⟩]) → ∃ p, r18texts_any n p := fun ⟨p, h1, h2⟩ => ⟨p, h2, h1⟩
  refine flip ?_
  simp only [r18texts_t]
  by_cases h : (32 : Int) < (n.kids.length : Int)
  · rw [dT h]
    cases n.kind != 2 <;> exact ⟨([], false), ⟨Nat.zero_le _, fun x hx => by cases hx⟩, rfl⟩
  · rw [dF h]
    cases n.kind != 2 with
    | true => exact ⟨([], false), ⟨Nat.zero_le _, fun x hx => by cases hx⟩, rfl⟩
    | false => exact anyS (fun _ h => Gr_of h) (r18texts_0 n hn (by omega) _ _ _ _ 0 0 [] rfl (Nat.zero_le _) rfl (fun x hx => by cases hx))
theorem r18texts_ok : FnOk E r18texts_id r18texts_W := r18texts_ok_of fun n hk => (r18texts_spec n (r18texts_tot n hk)).1
theorem r18texts_pr {n : Node} (hk : okN n = true) : (r18texts_r0 n).length ≤ 32 ∧ ∀ x ∈ r18texts_r0 n, x.length ≤ 200 := (r18texts_spec n (r18texts_tot n hk)).2
/-! done -/
def mapN (x : Node) : Node := ⟨3, x.text, x.keys, x.kids⟩
def doneB (x : Node) (b : Bool) : Bool := !(bif !b then true else decide ((32 : Int) < (x.keys.length : Int)))
def doneV (x : Node) (b : Bool) : Node := bif doneB x b then sortN 12 (mapN x) else ⟨0, [], [], []⟩
def okDn (x : Node) (b : Bool) : Bool := !(doneB x b) || wg 10000 12 (mapN x)
noncomputable def r18done_W : FnW E := fn22 (E := E) .api_Node .bool .api_Node .bool okDn doneV doneB
def r18done_id : FuncId := 93
noncomputable def r18done_O : Oracle E := orac [(140, rnsorted_W 12)] [] [] []
noncomputable def r18done_H : Hint E := Hint.mk [] [] [] [] []
noncomputable def r18done_t (_G : Nat → ASt E → Option (List (TV E))) (x0 : Node) (x1 : Bool) : Option (List (TV E)) :=
  bif (bif (!x1) then true else (decide ((32 : Int) < (x0.keys.length : Int)))) then some [⟨.api_Node, (⟨(0 : Int), ([] : List UInt8), ([] : List (List UInt8)), ([] : List Node)⟩ : Node)⟩, ⟨.bool, false⟩] else (bif ((wg 10000 12) (⟨(3 : Int), x0.text, x0.keys, x0.kids⟩ : Node)) then some [⟨.api_Node, (⟨((sortN 12) (⟨(3 : Int), x0.text, x0.keys, x0.kids⟩ : Node)).kind, ((sortN 12) (⟨(3 : Int), x0.text, x0.keys, x0.kids⟩ : Node)).text, ((sortN 12) (⟨(3 : Int), x0.text, x0.keys, x0.kids⟩ : Node)).keys, ((sortN 12) (⟨(3 : Int), x0.text, x0.keys, x0.kids⟩ : Node)).kids⟩ : Node)⟩, ⟨.bool, true⟩] else none)
theorem r18done_e (G : Nat → ASt E → Option (List (TV E))) (x0 : Node) (x1 : Bool) : runE r18done_O r18done_H G Tryz.f93 [⟨.api_Node, x0⟩, ⟨.bool, x1⟩] = r18done_t G x0 x1 := by kernel_rfl
theorem r18done_f : Tryz.prog.funcs[93]? = some Tryz.f93 := by kernel_rfl
theorem r18done_n : (Tryz.f93.name == "runtime.NumGoroutine") = false := by kernel_rfl
theorem r18done_b : Tryz.f93.body.isNone = false := by kernel_rfl
theorem r18done_ex : ∃ fn, Tryz.prog.funcs[93]? = some fn ∧ (fn.name == "runtime.NumGoroutine") = false ∧ fn.body.isNone = false := ⟨Tryz.f93, r18done_f, r18done_n, r18done_b⟩
theorem r18done_hO : OracleOk E r18done_O := orac_ok (.cons (rnsorted_ok 12) .nil) .nil .nil .nil
theorem r18done_ok_of (h : ∀ (x0 : Node) (x1 : Bool), okDn x0 x1 = true → r18done_t (Gr E Tryz.f93 [⟨.api_Node, doneV x0 x1⟩, ⟨.bool, doneB x0 x1⟩]) x0 x1 = some [⟨.api_Node, doneV x0 x1⟩, ⟨.bool, doneB x0 x1⟩]) : FnOk E r18done_id r18done_W := fn22_ok r18done_hO mix r18done_f r18done_n r18done_b (fun x0 x1 hk => (r18done_e _ x0 x1).trans (h x0 x1 hk))
theorem r18done_ok : FnOk E r18done_id r18done_W := r18done_ok_of fun x b hk => by
  unfold okDn at hk
  unfold doneV
  simp only [r18done_t, node_eta]
  change (bif _ then _ else bif wg 10000 12 (mapN x) then some ([⟨.api_Node, (⟨(sortN 12 (mapN x)).kind, (sortN 12 (mapN x)).text, (sortN 12 (mapN x)).keys, (sortN 12 (mapN x)).kids⟩ : Node)⟩, ⟨.bool, true⟩] : List (TV E)) else none) = _
  rw [node_eta]
  cases hb : doneB x b with
  | true =>
    rw [hb] at hk
    have hk : wg 10000 12 (mapN x) = true := by simpa using hk
    rw [hk]
    have hb2 : (bif !b then true else decide ((32 : Int) < (x.keys.length : Int))) = false := by simpa [doneB] using hb
    rw [hb2]
    rfl
  | false =>
    have hb2 : (bif !b then true else decide ((32 : Int) < (x.keys.length : Int))) = true := by
      unfold doneB at hb
      cases hq : (bif !b then true else decide ((32 : Int) < (x.keys.length : Int))) with
      | true => rfl
      | false => rw [hq] at hb; cases hb
    rw [hb2]
    rfl
theorem Bq.done_ok {φ : List UInt8 → Node → Prop} {d L : Nat} {x : Node} (h : Bq φ d L x) (hd : d ≤ 11) (b : Bool) : okDn x b = true := by
  unfold okDn
  cases hb : doneB x b with
  | false => rfl
  | true =>
    have hk : x.keys.length ≤ 32 := by
      unfold doneB at hb
      cases b with
      | false => cases hb
      | true =>
        simp only [Bool.not_true, cond_false, Bool.not_eq_true', decide_eq_false_iff_not] at hb
        omega
    have := wg_deep (11 - d) (h.wg_ (by omega) 3)
    rw [show d + 1 + (11 - d) = 12 from by omega] at this
    exact this
theorem Bq.done_pr {φ : List UInt8 → Node → Prop} {f : List UInt8 → Sh} (hf : ∀ k v, φ k v → k = ext ∨ pfits (f k) v) {d L : Nat} {x : Node} (h : Bq φ d L x) (hd : d ≤ 11) (b : Bool) (hb : doneB x b = true) : pfits (.map f) (doneV x b) ∧ wg 10000 (d + 1) (doneV x b) = true := by
  have hk : x.keys.length ≤ 32 := by
    have hb := hb
    unfold doneB at hb
    cases b with
    | false => cases hb
    | true =>
      simp only [Bool.not_true, cond_false, Bool.not_eq_true', decide_eq_false_iff_not] at hb
      omega
  have hw := h.wg_ (by omega) 3
  have hw12 := wg_deep (11 - d) hw
  rw [show d + 1 + (11 - d) = 12 from by omega] at hw12
  have e : doneV x b = sortN 12 (mapN x) := by unfold doneV; rw [hb]; rfl
  rw [e]
  exact ⟨fits_pfits _ _ (sortN_fits _ 12 _ hw12 (h.fits_ hf)), sortN_wg 12 (d + 1) _ (by omega) hw⟩
end Go.Proofs.YtpmknebhacaocaaGreatDoor.Rf