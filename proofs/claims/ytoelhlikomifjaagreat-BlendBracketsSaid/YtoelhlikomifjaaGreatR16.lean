/- The reference's services (19), by the Mirror. -/
import Derived.Test.YtoelhlikomifjaaGreatR15
namespace Go.Proofs.YtoelhlikomifjaaGreat.Rf
open Go Go.RowKit Go.Sort Go.Proofs.YtoelhlikomifjaaGreat.Mir
/-! ### The reference's files (19) -/
def fieldL : List (List UInt8) := [[114, 101, 115, 116, 97, 114, 116], [99, 112, 117, 115], [109, 101, 109, 95, 108, 105, 109, 105, 116], [115, 99, 97, 108, 101], [105, 109, 97, 103, 101], [99, 111, 109, 109, 97, 110, 100], [101, 110, 118, 105, 114, 111, 110, 109, 101, 110, 116], [108, 97, 98, 101, 108, 115], [110, 101, 116, 119, 111, 114, 107, 115], [112, 111, 114, 116, 115], [118, 111, 108, 117, 109, 101, 115], [100, 101, 112, 101, 110, 100, 115, 95, 111, 110], [101, 120, 116, 101, 110, 100, 115], [104, 101, 97, 108, 116, 104, 99, 104, 101, 99, 107]]
def nmF (key : List UInt8) : List (List UInt8) → Int → Int
  | [], _ => bif key == [112, 114, 111, 102, 105, 108, 101, 115] then 8 else -1
  | a :: t, i => bif a == key then i else nmF key t (i + 1)
def nmbV (key : List UInt8) : Int := nmF key fieldL 0
theorem nmF_spec (key : List UInt8) : ∀ (l : List (List UInt8)) (i : Int), nmF key l i = 8 ∨ nmF key l i = -1 ∨ ∃ m : Nat, l[m]? = some key ∧ nmF key l i = i + m
  | [], i => by
    unfold nmF
    cases key == [112, 114, 111, 102, 105, 108, 101, 115] with
    | true => exact .inl rfl
    | false => exact .inr (.inl rfl)
  | a :: t, i => by
    unfold nmF
    cases hb : a == key with
    | true => exact .inr (.inr ⟨0, by simpa using hb, by simp⟩)
    | false =>
      rcases nmF_spec key t (i + 1) with h | h | ⟨m, h1, h2⟩
      · exact .inl h
      · exact .inr (.inl h)
      · exact .inr (.inr ⟨m + 1, by simpa using h1, by rw [cond_false, h2]; omega⟩)
theorem nmb12 {key : List UInt8} (h : nmbV key = 12) : key = ext := by
  rcases nmF_spec key fieldL 0 with h1 | h1 | ⟨m, h1, h2⟩
  · have h : nmF key fieldL 0 = 12 := h
    omega
  · have h : nmF key fieldL 0 = 12 := h
    omega
  · have h : nmF key fieldL 0 = 12 := h
    have : m = 12 := by omega
    subst this
    exact (Option.some.inj h1).symm
noncomputable def r19number_W : FnW E := fn1 (E := E) .str .int (fun _ => true) nmbV
def r19number_id : FuncId := 36
noncomputable def r19number_O : Oracle E := orac [] [] [] []
noncomputable def r19number_H : Hint E := Hint.mk [(0, [0, 3, 4])] [] [] [] []
noncomputable def r19number_C0 (v0 : List UInt8) (v1 : List (List UInt8)) (v2 : Int) : ASt E := ASt.mk 21 [(0, .d (.str v0)), (3, .d (.slice .str v1)), (4, .d (.int .i64 v2))] [] 0
noncomputable def r19number_t (G : Nat → ASt E → Option (List (TV E))) (x0 : List UInt8) : Option (List (TV E)) :=
  G 0 (r19number_C0 x0 ([([114, 101, 115, 116, 97, 114, 116] : List UInt8), ([99, 112, 117, 115] : List UInt8), ([109, 101, 109, 95, 108, 105, 109, 105, 116] : List UInt8), ([115, 99, 97, 108, 101] : List UInt8), ([105, 109, 97, 103, 101] : List UInt8), ([99, 111, 109, 109, 97, 110, 100] : List UInt8), ([101, 110, 118, 105, 114, 111, 110, 109, 101, 110, 116] : List UInt8), ([108, 97, 98, 101, 108, 115] : List UInt8), ([110, 101, 116, 119, 111, 114, 107, 115] : List UInt8), ([112, 111, 114, 116, 115] : List UInt8), ([118, 111, 108, 117, 109, 101, 115] : List UInt8), ([100, 101, 112, 101, 110, 100, 115, 95, 111, 110] : List UInt8), ([101, 120, 116, 101, 110, 100, 115] : List UInt8), ([104, 101, 97, 108, 116, 104, 99, 104, 101, 99, 107] : List UInt8)] : List (List UInt8)) (0 : Int))
theorem r19number_e (G : Nat → ASt E → Option (List (TV E))) (x0 : List UInt8) : runE r19number_O r19number_H G Tryz.f36 [⟨.str, x0⟩] = r19number_t G x0 := by kernel_rfl
noncomputable def r19number_t0 (G : Nat → ASt E → Option (List (TV E))) (v0 : List UInt8) (v1 : List (List UInt8)) (v2 : Int) : Option (List (TV E)) :=
  bif (decide (v2 < (v1.length : Int))) then (bif (decide ((0 : Int) ≤ v2) && decide (v2 < (v1.length : Int))) then (bif ((List.getD v1 (Int.toNat v2) (dflt .str)) == v0) then some [⟨.int, v2⟩] else G 0 (r19number_C0 v0 v1 (w64 (v2 + (1 : Int))))) else none) else (bif (v0 == ([112, 114, 111, 102, 105, 108, 101, 115] : List UInt8)) then some [⟨.int, (8 : Int)⟩] else some [⟨.int, (-1 : Int)⟩])
theorem r19number_l0 (G : Nat → ASt E → Option (List (TV E))) (v0 : List UInt8) (v1 : List (List UInt8)) (v2 : Int) : runL r19number_O r19number_H G Tryz.f36 0 (r19number_C0 v0 v1 v2) = r19number_t0 G v0 v1 v2 := by kernel_rfl
theorem r19number_f : Tryz.prog.funcs[36]? = some Tryz.f36 := by kernel_rfl
theorem r19number_n : (Tryz.f36.name == "runtime.NumGoroutine") = false := by kernel_rfl
theorem r19number_b : Tryz.f36.body.isNone = false := by kernel_rfl
theorem r19number_ex : ∃ fn, Tryz.prog.funcs[36]? = some fn ∧ (fn.name == "runtime.NumGoroutine") = false ∧ fn.body.isNone = false := ⟨Tryz.f36, r19number_f, r19number_n, r19number_b⟩
theorem r19number_hO : OracleOk E r19number_O := orac_ok .nil .nil .nil .nil
theorem r19number_s0 {res : List (TV E)} {v0 : List UInt8} {v1 : List (List UInt8)} {v2 : Int} (h : r19number_t0 (Gr E Tryz.f36 res) v0 v1 v2 = some res) : Ev E Tryz.f36 res 0 (r19number_C0 v0 v1 v2) := Ev.step r19number_hO mix ((r19number_l0 _ v0 v1 v2).trans h)
theorem r19number_ok_of (h : ∀ (x0 : List UInt8), r19number_t (Gr E Tryz.f36 [⟨.int, nmbV x0⟩]) x0 = some [⟨.int, nmbV x0⟩]) : FnOk E r19number_id r19number_W := fn1_ok r19number_hO mix r19number_f r19number_n r19number_b (fun x0 _ => (r19number_e _ x0).trans (h x0))
theorem r19number_0 (key : List UInt8) (l : List (List UInt8)) (hl : l.length ≤ 100) : ∀ (m i : Nat), l.length - i = m → i ≤ l.length → 
    Ev E Tryz.f36 [⟨.int, nmF key (l.drop i) i⟩] 0 (r19number_C0 key l i) := by
  intro m
  induction m with
  | zero =>
    intro i  h1 h2
    refine r19number_s0 ?_
    simp only [r19number_t0, dge (show l.length ≤ i by omega), cond_false, List.drop_eq_nil_of_le (show l.length ≤ i by omega)]
    simp only [nmF]
    cases key == [112, 114, 111, 102, 105, 108, 101, 115] <;> rfl
  | succ m ih2 =>
    intro i  h1 h2
    have hi : i < l.length := by omega
    have e3 : w64 ((i : Int) + 1) = ((i + 1 : Nat) : Int) := by rw [w64_id (by omega) (by omega)]; omega
    refine r19number_s0 ?_
    simp only [r19number_t0, dlt hi, d0, gd l _ i hi, e3, Bool.and_self, Bool.true_or, cond_true]
    rw [← List.getElem_cons_drop hi]
    simp only [nmF]
    cases l[i] == key with
    | true => rfl
    | false =>
      have := Gr_of (ih2 (i + 1) (by omega) (by omega))
      rw [show ((i + 1 : Nat) : Int) = (i : Int) + 1 from by omega] at this ⊢
      exact this
theorem r19number_ok : FnOk E r19number_id r19number_W := r19number_ok_of fun key => Gr_of (r19number_0 key fieldL (by decide) _ 0 rfl (Nat.zero_le _))
noncomputable def r19foreign_O : Oracle E := orac [] [] [] []
noncomputable def r19foreign_H : Hint E := Hint.mk [] [] [] [] []
noncomputable def r19foreign_t (_G : Nat → ASt E → Option (List (TV E))) (x0 : List UInt8) : Option (List (TV E)) :=
  bif ((decide ((0 : Int) ≤ (0 : Int)) && decide ((0 : Int) ≤ (2 : Int)) && decide ((2 : Int) ≤ (x0.length : Int))) || !(decide ((2 : Int) ≤ (x0.length : Int)))) then some [⟨.bool, (bif (decide ((2 : Int) ≤ (x0.length : Int))) then ((List.take (Int.toNat (2 : Int) - Int.toNat (0 : Int)) (List.drop (Int.toNat (0 : Int)) x0)) == ([120, 45] : List UInt8)) else false)⟩] else none
theorem r19foreign_e (G : Nat → ASt E → Option (List (TV E))) (x0 : List UInt8) : runE r19foreign_O r19foreign_H G Tryz.f13 [⟨.str, x0⟩] = r19foreign_t G x0 := by kernel_rfl
theorem r19foreign_f : Tryz.prog.funcs[13]? = some Tryz.f13 := by kernel_rfl
theorem r19foreign_n : (Tryz.f13.name == "runtime.NumGoroutine") = false := by kernel_rfl
theorem r19foreign_b : Tryz.f13.body.isNone = false := by kernel_rfl
theorem r19foreign_ex : ∃ fn, Tryz.prog.funcs[13]? = some fn ∧ (fn.name == "runtime.NumGoroutine") = false ∧ fn.body.isNone = false := ⟨Tryz.f13, r19foreign_f, r19foreign_n, r19foreign_b⟩
theorem r19foreign_hO : OracleOk E r19foreign_O := orac_ok .nil .nil .nil .nil
def r19foreign_any (x0 : List UInt8) (p : Bool) : Prop := r19foreign_t (Gr E Tryz.f13 [⟨.bool, p⟩]) x0 = some [⟨.bool, p⟩]
noncomputable def r19foreign_p (x0 : List UInt8) : Bool := @Classical.epsilon _ ⟨(dflt .bool)⟩ (r19foreign_any x0)
noncomputable def r19foreign_r0 (x0 : List UInt8) : Bool := (r19foreign_p x0)
theorem r19foreign_spec (x0 : List UInt8) (h : ∃ p, r19foreign_any x0 p) : r19foreign_any x0 (r19foreign_p x0) := Classical.epsilon_spec h
noncomputable def r19foreign_W : FnW E := fn1 (E := E) .str .bool (fun _ => true) r19foreign_r0
def r19foreign_id : FuncId := 13
theorem r19foreign_ok_of (h : ∀ (x0 : List UInt8), r19foreign_t (Gr E Tryz.f13 [⟨.bool, r19foreign_r0 x0⟩]) x0 = some [⟨.bool, r19foreign_r0 x0⟩]) : FnOk E r19foreign_id r19foreign_W := fn1_ok r19foreign_hO mix r19foreign_f r19foreign_n r19foreign_b (fun x0 _ => (r19foreign_e _ x0).trans (h x0))
theorem r19foreign_ok : FnOk E r19foreign_id r19foreign_W := r19foreign_ok_of fun s => by
  have : ∃ p, r19foreign_any s p := by
    unfold r19foreign_any
    have hb : (decide ((0 : Int) ≤ 0) && decide ((0 : Int) ≤ 2) && decide ((2 : Int) ≤ (s.length : Int)) || !(decide ((2 : Int) ≤ (s.length : Int)))) = true := by
      cases decide ((2 : Int) ≤ (s.length : Int)) <;> rfl
    simp only [r19foreign_t, hb, cond_true]
    exact ⟨_, rfl⟩
  exact r19foreign_spec s this
def svcSh : Sh := .map fun k => shOf (nmbV k)
def svsSh : Sh := .map fun _ => svcSh
def okSv (n : Node) : Bool := okNd 10 n
theorem okNd_kid {d : Nat} {n y : Node} (hd : d ≤ 11) (h : okNd (d + 1) n = true) (hy : y ∈ n.kids) : okNd d y = true ∧ okN y = true := by
  simp only [okNd, Bool.and_eq_true] at h
  have h1 := (wf_iff.1 h.1).2.2.2.2.2 y hy
  have h2 := (kd_iff.1 h.2).2.2 y hy
  refine ⟨by simp only [okNd, h1, h2, Bool.and_self], okN_mk ?_ ?_⟩
  · have := wf_deep (11 - d) h1
    rwa [show d + (11 - d) = 11 from by omega] at this
  · have := kd_deep (11 - d) h2
    rwa [show d + (11 - d) = 11 from by omega] at this
theorem okNd_rows {d : Nat} {n : Node} (h : okNd (d + 1) n = true) : n.keys.length ≤ 200 ∧ n.keys.length ≤ n.kids.length ∧ ∀ k ∈ n.keys, k.length ≤ 200 := by
  simp only [okNd, Bool.and_eq_true] at h
  have h1 := wf_iff.1 h.1
  have h2 := (kd_iff.1 h.2).1
  refine ⟨h1.1, ?_, h1.2.2.2.2.1⟩
  by_cases h3 : n.kind = 3
  · rw [h1.2.2.1 h3]; exact Nat.le_refl _
  · rw [h2.2 h3]; exact Nat.zero_le _
theorem okNd_wg {d : Nat} {n : Node} (h : okNd d n = true) : wg 10000 d n = true := by
  simp only [okNd, Bool.and_eq_true] at h
  exact wg_up (by decide) (wf_wg h.1)
/-- A map that is built and put in order. -/
theorem Bq.sorted {φ : List UInt8 → Node → Prop} {f : List UInt8 → Sh} (hf : ∀ k v, φ k v → k = ext ∨ pfits (f k) v) {d L : Nat} {o : Node} (h : Bq φ d L o) (h3 : o.kind = 3) (hL : L ≤ 10000) (hd : d ≤ 11) :
    wg 10000 12 o = true ∧ fits (.map f) (sortN 12 o) ∧ wg 10000 (d + 1) (sortN 12 o) = true := by
  have e : (⟨3, o.text, o.keys, o.kids⟩ : Node) = o := by rw [← h3, node_eta]
  have hw := h.wg_ (by have := h.len; omega) 3
  rw [e] at hw
  have hp := h.fits_ hf
  rw [e] at hp
  have h12 := wg_to hw (show d + 1 ≤ 12 by omega)
  exact ⟨h12, sortN_fits _ 12 o h12 hp, sortN_wg 12 (d + 1) o (by omega) hw⟩
theorem withV_k3 {x : Node} {k : List UInt8} {v : Node} (hk : x.kind = 3) (h : x.keys.length = x.kids.length) : (withV x k v).kind = 3 := (withV_fit (k := k) (v := v) (.inr hk) h).1
def srvPr (_ : Node) (p : Formed) : Prop := p.path.length ≤ 200 ∧ (p.e = 0 → fits svcSh p.n ∧ wg 10000 10 p.n = true)
noncomputable def r19service_O : Oracle E := orac [(18, rnsorted_W 12), (17, rwith_W), (37, r18fieldk_W), (13, r19foreign_W), (36, r19number_W)] [] [] []
noncomputable def r19service_H : Hint E := Hint.mk [(0, [1, 2, 3, 4])] [] [(0, [(3, some 2, false, .str), (3, some 3, false, .api_Node)])] [] []
noncomputable def r19service_C0 (v0 : Int) (v1 : Int) (v2 : List UInt8) (v3 : List (List UInt8)) (v4 : List Node) (v5 : Int) (v6 : List UInt8) (v7 : List UInt8) (v8 : Int) (v9 : Int) (v10 : List UInt8) (v11 : List (List UInt8)) (v12 : List Node) : ASt E := ASt.mk 81 [(1, .ptr 0 0), (2, .ptr 1 0), (3, .ptr 2 0), (4, .d (.int .i64 v0))] [(0, .box [.d (.int .i64 v1), .d (.str v2), .d (.slice .str v3), .d (.slice .api_Node v4)]), (1, .box [.d (.int .i64 v5), .d (.str v6), .d (.raw (.slice none 0 0)), .d (.raw (.slice none 0 0)), .d (.str v7), .d (.int .i64 v8)]), (2, .box [.d (.int .i64 v9), .d (.str v10), .d (.slice .str v11), .d (.slice .api_Node v12)])] 3
noncomputable def r19service_t (G : Nat → ASt E → Option (List (TV E))) (x0 : Node) : Option (List (TV E)) :=
  bif (bif (x0.kind != (0 : Int)) then (x0.kind != (3 : Int)) else false) then some [⟨.ref19_Formed, (⟨(⟨(0 : Int), ([] : List UInt8), ([] : List (List UInt8)), ([] : List Node)⟩ : Node), ([] : List UInt8), (10 : Int)⟩ : Formed)⟩] else G 0 (r19service_C0 (0 : Int) x0.kind x0.text x0.keys x0.kids (0 : Int) ([] : List UInt8) ([] : List UInt8) (0 : Int) (3 : Int) ([] : List UInt8) ([] : List (List UInt8)) ([] : List Node))
theorem r19service_e (G : Nat → ASt E → Option (List (TV E))) (x0 : Node) : runE r19service_O r19service_H G Tryz.f27 [⟨.api_Node, x0⟩] = r19service_t G x0 := by kernel_rfl
noncomputable def r19service_t0 (G : Nat → ASt E → Option (List (TV E))) (v0 : Int) (v1 : Int) (v2 : List UInt8) (v3 : List (List UInt8)) (v4 : List Node) (v5 : Int) (v6 : List UInt8) (v7 : List UInt8) (v8 : Int) (v9 : Int) (v10 : List UInt8) (v11 : List (List UInt8)) (v12 : List Node) : Option (List (TV E)) :=
  bif (decide (v0 < (v3.length : Int))) then (bif (decide ((0 : Int) ≤ v0) && decide (v0 < (v3.length : Int))) then (bif (r19foreign_r0 (List.getD v3 (Int.toNat v0) (dflt .str))) then G 0 (r19service_C0 (w64 (v0 + (1 : Int))) v1 v2 v3 v4 v5 v6 v7 v8 v9 v10 v11 v12) else (bif (decide ((0 : Int) ≤ v0) && decide (v0 < (v3.length : Int))) then (bif (decide ((nmbV (List.getD v3 (Int.toNat v0) (dflt .str))) < (0 : Int))) then (bif (decide ((0 : Int) ≤ v0) && decide (v0 < (v3.length : Int))) then some [⟨.ref19_Formed, (⟨(⟨(0 : Int), ([] : List UInt8), ([] : List (List UInt8)), ([] : List Node)⟩ : Node), (List.getD v3 (Int.toNat v0) (dflt .str)), (10 : Int)⟩ : Formed)⟩] else none) else (bif (decide ((0 : Int) ≤ v0) && decide (v0 < (v4.length : Int))) then (bif ((List.getD v4 (Int.toNat v0) (dflt .api_Node)).kind == (0 : Int)) then G 0 (r19service_C0 (w64 (v0 + (1 : Int))) v1 v2 v3 v4 v5 v6 v7 v8 v9 v10 v11 v12) else (bif (decide ((0 : Int) ≤ v0) && decide (v0 < (v4.length : Int))) then (bif (okFd (⟨(List.getD v4 (Int.toNat v0) (dflt .api_Node)).kind, (List.getD v4 (Int.toNat v0) (dflt .api_Node)).text, (List.getD v4 (Int.toNat v0) (dflt .api_Node)).keys, (List.getD v4 (Int.toNat v0) (dflt .api_Node)).kids⟩ : Node) (nmbV (List.getD v3 (Int.toNat v0) (dflt .str)))) then (bif (!(r18fieldk_r1 (⟨(List.getD v4 (Int.toNat v0) (dflt .api_Node)).kind, (List.getD v4 (Int.toNat v0) (dflt .api_Node)).text, (List.getD v4 (Int.toNat v0) (dflt .api_Node)).keys, (List.getD v4 (Int.toNat v0) (dflt .api_Node)).kids⟩ : Node) (nmbV (List.getD v3 (Int.toNat v0) (dflt .str))))) then (bif (decide ((0 : Int) ≤ v0) && decide (v0 < (v3.length : Int))) then some [⟨.ref19_Formed, (⟨(⟨(0 : Int), ([] : List UInt8), ([] : List (List UInt8)), ([] : List Node)⟩ : Node), (List.getD v3 (Int.toNat v0) (dflt .str)), (10 : Int)⟩ : Formed)⟩] else none) else (bif (decide ((0 : Int) ≤ v0) && decide (v0 < (v3.length : Int))) then (bif (okWi (⟨v9, v10, v11, v12⟩ : Node) (List.getD v3 (Int.toNat v0) (dflt .str)) (⟨(r18fieldk_r0 (⟨(List.getD v4 (Int.toNat v0) (dflt .api_Node)).kind, (List.getD v4 (Int.toNat v0) (dflt .api_Node)).text, (List.getD v4 (Int.toNat v0) (dflt .api_Node)).keys, (List.getD v4 (Int.toNat v0) (dflt .api_Node)).kids⟩ : Node) (nmbV (List.getD v3 (Int.toNat v0) (dflt .str)))).kind, (r18fieldk_r0 (⟨(List.getD v4 (Int.toNat v0) (dflt .api_Node)).kind, (List.getD v4 (Int.toNat v0) (dflt .api_Node)).text, (List.getD v4 (Int.toNat v0) (dflt .api_Node)).keys, (List.getD v4 (Int.toNat v0) (dflt .api_Node)).kids⟩ : Node) (nmbV (List.getD v3 (Int.toNat v0) (dflt .str)))).text, (r18fieldk_r0 (⟨(List.getD v4 (Int.toNat v0) (dflt .api_Node)).kind, (List.getD v4 (Int.toNat v0) (dflt .api_Node)).text, (List.getD v4 (Int.toNat v0) (dflt .api_Node)).keys, (List.getD v4 (Int.toNat v0) (dflt .api_Node)).kids⟩ : Node) (nmbV (List.getD v3 (Int.toNat v0) (dflt .str)))).keys, (r18fieldk_r0 (⟨(List.getD v4 (Int.toNat v0) (dflt .api_Node)).kind, (List.getD v4 (Int.toNat v0) (dflt .api_Node)).text, (List.getD v4 (Int.toNat v0) (dflt .api_Node)).keys, (List.getD v4 (Int.toNat v0) (dflt .api_Node)).kids⟩ : Node) (nmbV (List.getD v3 (Int.toNat v0) (dflt .str)))).kids⟩ : Node)) then G 0 (r19service_C0 (w64 (v0 + (1 : Int))) v1 v2 v3 v4 v5 v6 v7 v8 ((withV (⟨v9, v10, v11, v12⟩ : Node) (List.getD v3 (Int.toNat v0) (dflt .str)) (⟨(r18fieldk_r0 (⟨(List.getD v4 (Int.toNat v0) (dflt .api_Node)).kind, (List.getD v4 (Int.toNat v0) (dflt .api_Node)).text, (List.getD v4 (Int.toNat v0) (dflt .api_Node)).keys, (List.getD v4 (Int.toNat v0) (dflt .api_Node)).kids⟩ : Node) (nmbV (List.getD v3 (Int.toNat v0) (dflt .str)))).kind, (r18fieldk_r0 (⟨(List.getD v4 (Int.toNat v0) (dflt .api_Node)).kind, (List.getD v4 (Int.toNat v0) (dflt .api_Node)).text, (List.getD v4 (Int.toNat v0) (dflt .api_Node)).keys, (List.getD v4 (Int.toNat v0) (dflt .api_Node)).kids⟩ : Node) (nmbV (List.getD v3 (Int.toNat v0) (dflt .str)))).text, (r18fieldk_r0 (⟨(List.getD v4 (Int.toNat v0) (dflt .api_Node)).kind, (List.getD v4 (Int.toNat v0) (dflt .api_Node)).text, (List.getD v4 (Int.toNat v0) (dflt .api_Node)).keys, (List.getD v4 (Int.toNat v0) (dflt .api_Node)).kids⟩ : Node) (nmbV (List.getD v3 (Int.toNat v0) (dflt .str)))).keys, (r18fieldk_r0 (⟨(List.getD v4 (Int.toNat v0) (dflt .api_Node)).kind, (List.getD v4 (Int.toNat v0) (dflt .api_Node)).text, (List.getD v4 (Int.toNat v0) (dflt .api_Node)).keys, (List.getD v4 (Int.toNat v0) (dflt .api_Node)).kids⟩ : Node) (nmbV (List.getD v3 (Int.toNat v0) (dflt .str)))).kids⟩ : Node)).kind) ((withV (⟨v9, v10, v11, v12⟩ : Node) (List.getD v3 (Int.toNat v0) (dflt .str)) (⟨(r18fieldk_r0 (⟨(List.getD v4 (Int.toNat v0) (dflt .api_Node)).kind, (List.getD v4 (Int.toNat v0) (dflt .api_Node)).text, (List.getD v4 (Int.toNat v0) (dflt .api_Node)).keys, (List.getD v4 (Int.toNat v0) (dflt .api_Node)).kids⟩ : Node) (nmbV (List.getD v3 (Int.toNat v0) (dflt .str)))).kind, (r18fieldk_r0 (⟨(List.getD v4 (Int.toNat v0) (dflt .api_Node)).kind, (List.getD v4 (Int.toNat v0) (dflt .api_Node)).text, (List.getD v4 (Int.toNat v0) (dflt .api_Node)).keys, (List.getD v4 (Int.toNat v0) (dflt .api_Node)).kids⟩ : Node) (nmbV (List.getD v3 (Int.toNat v0) (dflt .str)))).text, (r18fieldk_r0 (⟨(List.getD v4 (Int.toNat v0) (dflt .api_Node)).kind, (List.getD v4 (Int.toNat v0) (dflt .api_Node)).text, (List.getD v4 (Int.toNat v0) (dflt .api_Node)).keys, (List.getD v4 (Int.toNat v0) (dflt .api_Node)).kids⟩ : Node) (nmbV (List.getD v3 (Int.toNat v0) (dflt .str)))).keys, (r18fieldk_r0 (⟨(List.getD v4 (Int.toNat v0) (dflt .api_Node)).kind, (List.getD v4 (Int.toNat v0) (dflt .api_Node)).text, (List.getD v4 (Int.toNat v0) (dflt .api_Node)).keys, (List.getD v4 (Int.toNat v0) (dflt .api_Node)).kids⟩ : Node) (nmbV (List.getD v3 (Int.toNat v0) (dflt .str)))).kids⟩ : Node)).text) ((withV (⟨v9, v10, v11, v12⟩ : Node) (List.getD v3 (Int.toNat v0) (dflt .str)) (⟨(r18fieldk_r0 (⟨(List.getD v4 (Int.toNat v0) (dflt .api_Node)).kind, (List.getD v4 (Int.toNat v0) (dflt .api_Node)).text, (List.getD v4 (Int.toNat v0) (dflt .api_Node)).keys, (List.getD v4 (Int.toNat v0) (dflt .api_Node)).kids⟩ : Node) (nmbV (List.getD v3 (Int.toNat v0) (dflt .str)))).kind, (r18fieldk_r0 (⟨(List.getD v4 (Int.toNat v0) (dflt .api_Node)).kind, (List.getD v4 (Int.toNat v0) (dflt .api_Node)).text, (List.getD v4 (Int.toNat v0) (dflt .api_Node)).keys, (List.getD v4 (Int.toNat v0) (dflt .api_Node)).kids⟩ : Node) (nmbV (List.getD v3 (Int.toNat v0) (dflt .str)))).text, (r18fieldk_r0 (⟨(List.getD v4 (Int.toNat v0) (dflt .api_Node)).kind, (List.getD v4 (Int.toNat v0) (dflt .api_Node)).text, (List.getD v4 (Int.toNat v0) (dflt .api_Node)).keys, (List.getD v4 (Int.toNat v0) (dflt .api_Node)).kids⟩ : Node) (nmbV (List.getD v3 (Int.toNat v0) (dflt .str)))).keys, (r18fieldk_r0 (⟨(List.getD v4 (Int.toNat v0) (dflt .api_Node)).kind, (List.getD v4 (Int.toNat v0) (dflt .api_Node)).text, (List.getD v4 (Int.toNat v0) (dflt .api_Node)).keys, (List.getD v4 (Int.toNat v0) (dflt .api_Node)).kids⟩ : Node) (nmbV (List.getD v3 (Int.toNat v0) (dflt .str)))).kids⟩ : Node)).keys) ((withV (⟨v9, v10, v11, v12⟩ : Node) (List.getD v3 (Int.toNat v0) (dflt .str)) (⟨(r18fieldk_r0 (⟨(List.getD v4 (Int.toNat v0) (dflt .api_Node)).kind, (List.getD v4 (Int.toNat v0) (dflt .api_Node)).text, (List.getD v4 (Int.toNat v0) (dflt .api_Node)).keys, (List.getD v4 (Int.toNat v0) (dflt .api_Node)).kids⟩ : Node) (nmbV (List.getD v3 (Int.toNat v0) (dflt .str)))).kind, (r18fieldk_r0 (⟨(List.getD v4 (Int.toNat v0) (dflt .api_Node)).kind, (List.getD v4 (Int.toNat v0) (dflt .api_Node)).text, (List.getD v4 (Int.toNat v0) (dflt .api_Node)).keys, (List.getD v4 (Int.toNat v0) (dflt .api_Node)).kids⟩ : Node) (nmbV (List.getD v3 (Int.toNat v0) (dflt .str)))).text, (r18fieldk_r0 (⟨(List.getD v4 (Int.toNat v0) (dflt .api_Node)).kind, (List.getD v4 (Int.toNat v0) (dflt .api_Node)).text, (List.getD v4 (Int.toNat v0) (dflt .api_Node)).keys, (List.getD v4 (Int.toNat v0) (dflt .api_Node)).kids⟩ : Node) (nmbV (List.getD v3 (Int.toNat v0) (dflt .str)))).keys, (r18fieldk_r0 (⟨(List.getD v4 (Int.toNat v0) (dflt .api_Node)).kind, (List.getD v4 (Int.toNat v0) (dflt .api_Node)).text, (List.getD v4 (Int.toNat v0) (dflt .api_Node)).keys, (List.getD v4 (Int.toNat v0) (dflt .api_Node)).kids⟩ : Node) (nmbV (List.getD v3 (Int.toNat v0) (dflt .str)))).kids⟩ : Node)).kids)) else none) else none)) else none) else none)) else none)) else none)) else none) else (bif ((wg 10000 12) (⟨v9, v10, v11, v12⟩ : Node)) then some [⟨.ref19_Formed, (⟨(⟨((sortN 12) (⟨v9, v10, v11, v12⟩ : Node)).kind, ((sortN 12) (⟨v9, v10, v11, v12⟩ : Node)).text, ((sortN 12) (⟨v9, v10, v11, v12⟩ : Node)).keys, ((sortN 12) (⟨v9, v10, v11, v12⟩ : Node)).kids⟩ : Node), ([] : List UInt8), (0 : Int)⟩ : Formed)⟩] else none)
theorem r19service_l0 (G : Nat → ASt E → Option (List (TV E))) (v0 : Int) (v1 : Int) (v2 : List UInt8) (v3 : List (List UInt8)) (v4 : List Node) (v5 : Int) (v6 : List UInt8) (v7 : List UInt8) (v8 : Int) (v9 : Int) (v10 : List UInt8) (v11 : List (List UInt8)) (v12 : List Node) : runL r19service_O r19service_H G Tryz.f27 0 (r19service_C0 v0 v1 v2 v3 v4 v5 v6 v7 v8 v9 v10 v11 v12) = r19service_t0 G v0 v1 v2 v3 v4 v5 v6 v7 v8 v9 v10 v11 v12 := by kernel_rfl
theorem r19service_f : Tryz.prog.funcs[27]? = some Tryz.f27 := by kernel_rfl
theorem r19service_n : (Tryz.f27.name == "runtime.NumGoroutine") = false := by kernel_rfl
theorem r19service_b : Tryz.f27.body.isNone = false := by kernel_rfl
theorem r19service_ex : ∃ fn, Tryz.prog.funcs[27]? = some fn ∧ (fn.name == "runtime.NumGoroutine") = false ∧ fn.body.isNone = false := ⟨Tryz.f27, r19service_f, r19service_n, r19service_b⟩
theorem r19service_hO : OracleOk E r19service_O := orac_ok (.cons (rnsorted_ok 12) (.cons rwith_ok (.cons r18fieldk_ok (.cons r19foreign_ok (.cons r19number_ok .nil))))) .nil .nil .nil
theorem r19service_s0 {res : List (TV E)} {v0 : Int} {v1 : Int} {v2 : List UInt8} {v3 : List (List UInt8)} {v4 : List Node} {v5 : Int} {v6 : List UInt8} {v7 : List UInt8} {v8 : Int} {v9 : Int} {v10 : List UInt8} {v11 : List (List UInt8)} {v12 : List Node} (h : r19service_t0 (Gr E Tryz.f27 res) v0 v1 v2 v3 v4 v5 v6 v7 v8 v9 v10 v11 v12 = some res) : Ev E Tryz.f27 res 0 (r19service_C0 v0 v1 v2 v3 v4 v5 v6 v7 v8 v9 v10 v11 v12) := Ev.step r19service_hO mix ((r19service_l0 _ v0 v1 v2 v3 v4 v5 v6 v7 v8 v9 v10 v11 v12).trans h)
def r19service_any (x0 : Node) (p : Formed) : Prop := r19service_t (Gr E Tryz.f27 [⟨.ref19_Formed, p⟩]) x0 = some [⟨.ref19_Formed, p⟩] ∧ srvPr x0 p
noncomputable def r19service_p (x0 : Node) : Formed := @Classical.epsilon _ ⟨(dflt .ref19_Formed)⟩ (r19service_any x0)
noncomputable def r19service_r0 (x0 : Node) : Formed := (r19service_p x0)
theorem r19service_spec (x0 : Node) (h : ∃ p, r19service_any x0 p) : r19service_any x0 (r19service_p x0) := Classical.epsilon_spec h
noncomputable def r19service_W : FnW E := fn1 (E := E) .api_Node .ref19_Formed okSv r19service_r0
def r19service_id : FuncId := 27
theorem r19service_ok_of (h : ∀ (x0 : Node), okSv x0 = true → r19service_t (Gr E Tryz.f27 [⟨.ref19_Formed, r19service_r0 x0⟩]) x0 = some [⟨.ref19_Formed, r19service_r0 x0⟩]) : FnOk E r19service_id r19service_W := fn1_ok r19service_hO mix r19service_f r19service_n r19service_b (fun x0 hk => (r19service_e _ x0).trans (h x0 hk))
abbrev FB (f : Func) (Pr : Formed → Prop) (j : Nat) (S : ASt E) : Prop := ∃ p : Formed, Pr p ∧ Ev E f [⟨.ref19_Formed, p⟩] j S
def srvK (k : List UInt8) (v : Node) : Prop := k = ext ∨ pfits (shOf (nmbV k)) v
theorem srv_no {n : Node} {s : List UInt8} (hs : s.length ≤ 200) : srvPr n ⟨⟨0, [], [], []⟩, s, 10⟩ := ⟨hs, fun h => by cases h⟩
theorem r19service_0 (n : Node) (hn : okSv n = true) (u5 : Int) (u6 u7 : List UInt8) (u8 : Int) : ∀ (m i : Nat) (o : Node), n.keys.length - i = m → i ≤ n.keys.length → o.kind = 3 → Bq srvK 9 i o →
    FB Tryz.f27 (srvPr n) 0 (r19service_C0 i n.kind n.text n.keys n.kids u5 u6 u7 u8 o.kind o.text o.keys o.kids) := by
  obtain ⟨r1, r2, r3⟩ := okNd_rows hn
  intro m
  induction m with
  | zero =>
    intro i o h1 h2 h3 h4
    obtain ⟨s1, s2, s3⟩ := h4.sorted (f := fun k => shOf (nmbV k)) (fun _ _ h => h) h3 (by omega) (by decide)
    refine anyS (fun _ h => r19service_s0 h) ?_
    simp only [r19service_t0, dge (show n.keys.length ≤ i by omega), cond_false, node_eta, s1, cond_true]
    exact ⟨⟨sortN 12 o, [], 0⟩, ⟨by simp, fun _ => ⟨s2, s3⟩⟩, rfl⟩
  | succ m ih =>
    intro i o h1 h2 h3 h4
    have hi : i < n.keys.length := by omega
    have hj : i < n.kids.length := by omega
    have e1 : w64 ((i : Int) + 1) = ((i + 1 : Nat) : Int) := by rw [w64_id (by omega) (by omega)]; omega
    obtain ⟨k1, k2⟩ := okNd_kid (by decide) hn (List.getElem_mem hj)
    have hkl := r3 _ (List.getElem_mem hi)
    have skip : FB Tryz.f27 (srvPr n) 0 (r19service_C0 ((i + 1 : Nat) : Int) n.kind n.text n.keys n.kids u5 u6 u7 u8 o.kind o.text o.keys o.kids) :=
      ih (i + 1) o (by omega) (by omega) h3 ⟨h4.bld, h4.kids, by have := h4.len; omega⟩
    refine anyS (fun _ h => r19service_s0 h) ?_
    simp only [r19service_t0, dlt hi, dlt hj, d0, Bool.and_self, cond_true, gd n.keys _ i hi, gd n.kids _ i hj, node_eta, e1, h4.ok (by omega), show okFd n.kids[i] (nmbV n.keys[i]) = true from k2]
    cases r19foreign_r0 n.keys[i] with
    | true => exact anyS (fun _ h => Gr_of h) skip
    | false =>
      simp only [cond_false]
      cases decide (nmbV n.keys[i] < 0) with
      | true => exact ⟨_, srv_no hkl, rfl⟩
      | false =>
        simp only [cond_false]
        cases n.kids[i].kind == 0 with
        | true => exact anyS (fun _ h => Gr_of h) skip
        | false =>
          simp only [cond_false]
          cases hr : r18fieldk_r1 n.kids[i] (nmbV n.keys[i]) with
          | false => exact ⟨_, srv_no hkl, rfl⟩
          | true =>
            obtain ⟨q1, q2⟩ := r18fieldk_pr (nmbV n.keys[i]) k2 hr
            change nmbV n.keys[i] = 12 ∨ pfits (shOf (nmbV n.keys[i])) (r18fieldk_r0 n.kids[i] (nmbV n.keys[i])) at q1
            have hv : srvK n.keys[i] (r18fieldk_r0 n.kids[i] (nmbV n.keys[i])) := q1.imp nmb12 id
            have hw : wg 10000 9 (r18fieldk_r0 n.kids[i] (nmbV n.keys[i])) = true := q2 9 (by decide) (by decide) (okNd_wg k1)
            exact anyS (fun _ h => Gr_of h) (ih (i + 1) _ (by omega) (by omega) (withV_k3 h3 h4.bld.len) (h4.put hv hw))
theorem r19service_tot (n : Node) (hn : okSv n = true) : ∃ p, r19service_any n p := by
  have flip : (∃ p, srvPr n p ∧ r19service_t (Gr E Tryz.f27 [⟨.ref19_Formed, p⟩]) n = some [⟨.ref19_Formed, p⟩]) → ∃ p, r19service_any n p := fun ⟨p, h1, h2⟩ => ⟨p, h2, h1⟩
  refine flip ?_
  simp only [r19service_t]
  cases (bif n.kind != 0 then n.kind != 3 else false) with
  | true => exact ⟨_, srv_no (by simp), rfl⟩
  | false => exact anyS (fun _ h => Gr_of h) (r19service_0 n hn _ _ _ _ _ 0 ⟨3, [], [], []⟩ rfl (Nat.zero_le _) rfl (Bq.nil (.inr rfl)))
theorem r19service_ok : FnOk E r19service_id r19service_W := r19service_ok_of fun n hk => (r19service_spec n (r19service_tot n hk)).1
theorem r19service_pr {n : Node} (hk : okSv n = true) : (r19service_r0 n).path.length ≤ 200 ∧ ((r19service_r0 n).e = 0 → fits svcSh (r19service_r0 n).n ∧ wg 10000 10 (r19service_r0 n).n = true) := (r19service_spec n (r19service_tot n hk)).2
end Go.Proofs.YtoelhlikomifjaaGreat.Rf