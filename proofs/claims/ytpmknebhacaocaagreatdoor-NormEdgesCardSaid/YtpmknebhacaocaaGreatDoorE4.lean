/- NormEdges: what the law's function computes. -/
import Derived.Test.YtpmknebhacaocaaGreatDoorE3
namespace Go.Proofs.YtpmknebhacaocaaGreatDoor.Rf
open Go Go.RowKit Go.Sort Go.Proofs.YtpmknebhacaocaaGreatDoor.Mir
/-! ### The law's own functions: edges, and what is extended, asked of both -/
theorem left_kid {n : Nat} {x : Node} {d l : Int} (hd : d + ((n + 1 : Nat) + 1 : Nat) = 14) (h : 0 ≤ leftV (n + 1 + 1) x d l) : ∀ y ∈ x.kids, ∃ l', 0 ≤ leftV (n + 1) y (d + 1) l' := by
  unfold leftV at h
  cases h1 : badA x d (l - 1) with
  | true => rw [h1, cond_true] at h; omega
  | false =>
    cases h2 : badB x with
    | true => rw [h1, h2, cond_false, cond_true] at h; omega
    | false =>
      cases h3 : badC x (l - 1) with
      | true => rw [h1, h2, h3, cond_false, cond_false, cond_true] at h; omega
      | false =>
        rw [h1, h2, h3, cond_false, cond_false, cond_false] at h
        obtain ⟨q1, q2⟩ := kidsV_le (fun k l h => leftV_le (n + 1) k (d + 1) l h) x.kids (l - 1) h
        intro y hy
        obtain ⟨l', h4, _⟩ := q2 y hy
        exact ⟨l', h4⟩
theorem left_top {n : Nat} {x : Node} {d l : Int} (h : 0 ≤ leftV (n + 1) x d l) : (x.kind = 3 → x.keys.length = x.kids.length ∧ x.keys.Nodup) ∧ (x.kind ≠ 1 → x.text = []) := by
  unfold leftV at h
  cases h1 : badA x d (l - 1) with
  | true => rw [h1, cond_true] at h; omega
  | false =>
    cases h2 : badB x with
    | true => rw [h1, h2, cond_false, cond_true] at h; omega
    | false =>
      cases hc : badC x (l - 1) with
      | true => rw [h1, h2, hc, cond_false, cond_false, cond_true] at h; omega
      | false =>
        constructor
        · intro h3
          unfold badC at hc
          rw [eqT h3, cond_true] at hc
          by_cases e : ((Pl.sortD x.keys).length : Int) = (x.keys.length : Int)
          · refine ⟨?_, nodup_of_sort (by omega)⟩
            by_cases e2 : (x.keys.length : Int) = (x.kids.length : Int)
            · omega
            · rw [neT e2] at hc; cases hc
          · rw [neT e] at hc
            cases hq : (bif (x.keys.length : Int) != (x.kids.length : Int) then true else decide (l - 1 < (x.kids.length : Int))) <;> rw [hq] at hc <;> cases hc
        · intro h1k
          unfold badB at h2
          rw [neT h1k, cond_true] at h2
          by_cases e : (0 : Int) < (x.text.length : Int)
          · rw [dT e] at h2; cases h2
          · exact List.eq_nil_of_length_eq_zero (by omega)
theorem kd_zero {n : Nat} {y : Node} (h : kd (n + 1) y = true) (h2 : y.kind < 2) : y.keys = [] ∧ y.kids = [] := by
  have k := kd_iff.1 h
  exact ⟨List.eq_nil_of_length_eq_zero (k.1.2 (by omega)), List.eq_nil_of_length_eq_zero (k.2.1 h2)⟩
/-- What a small node is. -/
structure Sm (n : Node) : Prop where
  wf_ : wf 200 12 n = true
  kd_ : kd 12 n = true
  top : (n.kind = 3 → n.keys.length = n.kids.length ∧ n.keys.Nodup) ∧ (n.kind ≠ 1 → n.text = [])
  sub : ∀ y ∈ n.kids, (y.kind = 3 → y.keys.length = y.kids.length ∧ y.keys.Nodup) ∧ (y.kind ≠ 1 → y.text = [])
theorem sm_of {n : Node} {m : Int} (hm : m ≤ 200) (h : smallV n m = true) : Sm n := by
  have h1 := small_nd_ hm h
  simp only [okNd, Bool.and_eq_true] at h1
  unfold smallV at h
  by_cases h0 : 0 ≤ leftV 13 n 1 m
  · refine ⟨h1.1, h1.2, left_top h0, fun y hy => ?_⟩
    obtain ⟨l', h2⟩ := left_kid (n := 11) (by decide) h0 y hy
    exact left_top h2
  · rw [dF h0] at h; cases h
theorem Sm.kid {n y : Node} (g : Sm n) (hy : y ∈ n.kids) : kd 11 y = true ∧ wf 200 11 y = true := ⟨(kd_iff.1 g.kd_).2.2 y hy, (wf_iff.1 g.wf_).2.2.2.2.2 y hy⟩
theorem Sm.ky {n y : Node} (g : Sm n) (hy : y ∈ n.kids) : Ky y := by
  refine ⟨fun h0 => ?_, (g.sub y hy).1⟩
  obtain ⟨h1, h2⟩ := kd_zero (g.kid hy).1 (by omega)
  rw [← node_eta y, h0, (g.sub y hy).2 (by omega), h1, h2]
  rfl
theorem Sm.tx {n y : Node} (g : Sm n) (hy : y ∈ n.kids) (h1 : y.kind = 1) : isTx y := by
  obtain ⟨h2, h3⟩ := kd_zero (g.kid hy).1 (by omega)
  exact ⟨by conv => lhs; rw [← node_eta y, h1, h2, h3]
            rfl, (wf_iff.1 (g.kid hy).2).2.2.2.1⟩
theorem Sm.lens {n : Node} (g : Sm n) : n.keys.length ≤ 200 ∧ n.kids.length ≤ 200 ∧ (∀ k ∈ n.keys, k.length ≤ 200) ∧ ∀ y ∈ n.kids, y.text.length ≤ 200 := by
  have := wf_iff.1 g.wf_
  exact ⟨this.1, this.2.1, this.2.2.2.2.1, fun y hy => (wf_iff.1 (g.kid hy).2).2.2.2.1⟩
theorem Ky.ok {y : Node} (h : Ky y) (hf : fit y = true) : okEd y = true := by
  simp only [okEd, hf, Bool.true_and, Bool.or_eq_true, bne_iff_ne]
  by_cases h0 : y.kind = 0
  · rw [h.1 h0]; exact .inr rfl
  · exact .inl h0
theorem okDp_of {n : Node} (h1 : n.kind = 3 → n.keys.length = n.kids.length) (h2 : n.keys.length ≤ 200) (h3 : n.kids.length ≤ 200) (h4 : ∀ k ∈ n.keys, k.length ≤ 200) (h5 : ∀ y ∈ n.kids, y.text.length ≤ 200) (h6 : ∀ y ∈ n.kids, okEd y = true) : okDp n = true := by
  simp only [okDp, Bool.and_eq_true, decide_eq_true_eq, List.all_eq_true]
  refine ⟨⟨⟨⟨h1, by omega⟩, by omega⟩, fun s hs => ?_⟩, h6⟩
  unfold dpK at hs
  cases hm : memB n 3 with
  | true => rw [hm] at hs; have := h4 s hs; omega
  | false => rw [hm] at hs; have := txsL_txt h5 s hs; omega
theorem Sm.deps {n : Node} (g : Sm n) : okDp n = true ∧ okRd n = true ∧ Ge n := by
  obtain ⟨l1, l2, l3, l4⟩ := g.lens
  have hf : ∀ y ∈ n.kids, fit y = true := fun y hy => wf_fit (g.kid hy).2 (by decide)
  refine ⟨okDp_of (fun e => (g.top.1 e).1) l1 l2 l3 l4 fun y hy => (g.ky hy).ok (hf y hy), ?_, fun e => (g.top.1 e).1, fun y hy => g.ky hy⟩
  simp only [okRd, Bool.and_eq_true, decide_eq_true_eq, List.all_eq_true]
  exact ⟨⟨⟨fun e => (g.top.1 e).1, by omega⟩, by omega⟩, hf⟩
theorem Gx.fit_ {m : Node} (g : Gx m) : fit m = true := wg_fit g.wg_ (by decide)
theorem gx_fld {m : Node} (g : Gx m) (hx : ∀ y ∈ m.kids, y.text.length ≤ 200) : okNm1 (fldV m svK []) = true := by
  unfold okNm1 fldV
  cases hb : getB m svK with
  | false => rfl
  | true =>
    have := hx _ (getV_mem hb)
    exact decide_eq_true (by show (getV m svK).text.length ≤ 1000000; omega)
theorem Sm.ext {n : Node} (g : Sm n) : Gx (ex1 n) ∧ ∀ y ∈ (ex1 n).kids, y.text.length ≤ 200 := by
  by_cases h1 : n.kind = 1
  · have e : ex1 n = ⟨3, [], [svK], [n]⟩ := by unfold ex1; rw [eqT h1]; rfl
    obtain ⟨k1, k2⟩ := kd_zero g.kd_ (by omega)
    have hn : n = txtN n.text := by conv => lhs; rw [← node_eta n, h1, k1, k2]
                                    rfl
    have ht : isTx n := ⟨hn, (wf_iff.1 g.wf_).2.2.2.1⟩
    obtain ⟨q1, q2⟩ := isTx_wk n ht
    rw [e]
    refine ⟨⟨fun _ => rfl, fun _ => rfl, fun _ => by simp, wg_iff.2 ⟨by simp, by simp, fun _ => rfl, fun y hy => by rw [List.mem_singleton.1 hy]; exact q1⟩, kd_iff.2 ⟨⟨⟨show (0 : Int) ≤ 3 by decide, show (3 : Int) ≤ 3 by decide⟩, fun e => absurd rfl e⟩, fun e => absurd (show (3 : Int) < 2 from e) (by decide), fun y hy => by rw [List.mem_singleton.1 hy]; exact q2⟩, fun y hy _ => by rw [List.mem_singleton.1 hy]; exact ht⟩, fun y hy => by rw [List.mem_singleton.1 hy]; exact ht.2⟩
  · have e : ex1 n = n := by unfold ex1; rw [eqF h1]; rfl
    rw [e]
    exact ⟨⟨fun h => g.top.2 (by omega), fun h => (g.top.1 h).1, fun h => (g.top.1 h).2, wg_up (by decide) (wf_wg g.wf_), g.kd_, fun y hy => g.tx hy⟩, g.lens.2.2.2⟩
theorem okEx_of {n : Node} (g : Gx (ex1 n)) (hx : ∀ y ∈ (ex1 n).kids, y.text.length ≤ 200) (h1 : n.kind = 1 → n.keys = [] ∧ n.kids = []) : okEx n = true := by
  simp only [okEx, g.fit_, g.wg_, gx_fld g hx, Bool.true_and, Bool.and_true, Bool.or_eq_true, bne_iff_ne, Bool.and_eq_true, beq_iff_eq, decide_eq_true_eq]
  by_cases h : n.kind = 1
  · exact .inr ⟨(h1 h).1, by rw [(h1 h).2]; rfl⟩
  · exact .inl h
theorem okRx_of {n : Node} (g : Gx (ex1 n)) : okRx n = true := by
  simp only [okRx, g.fit_, Bool.true_and, Bool.or_eq_true, bne_iff_ne]
  by_cases h : (ex1 n).kind = 3
  · refine .inr ?_
    unfold okDn
    rw [map_self h, g.wg_, Bool.or_true]
  · exact .inl h
theorem Sf.gx {a : Node} (h : Sf exK isTx a) : Gx a ∧ ∀ y ∈ a.kids, y.text.length ≤ 200 :=
  ⟨⟨fun _ => h.text, fun _ => h.len, fun _ => ss_nodup h.ss, h.wg_ isTx_wk, kd_iff.2 ⟨⟨⟨by rw [h.kind]; decide, by rw [h.kind]; decide⟩, fun e => absurd h.kind e⟩, fun e => by rw [h.kind] at e; exact absurd e (by decide), fun y hy => (isTx_wk y (h.kid y hy)).2⟩, fun y hy _ => h.kid y hy⟩, fun y hy => (h.kid y hy).2⟩
def okFd (n : Node) (k : Int) : Bool := bif k == 12 then okEx n else bif k == 11 then okDp n else false
def fdV (n : Node) (k : Int) : Node := bif k == 12 then exV n else dpV n
def fdE (n : Node) (k : Int) : Int := bif k == 12 then exE n else dpE n
noncomputable def lfield_W : FnW E := fn22 (E := E) .api_Node .int .api_Node .api_Errno okFd fdV fdE
def lfield_id : FuncId := 10
noncomputable def lfield_O : Oracle E := orac [(31, ndeps_W), (32, nextends_W), (9, nports_W), (29, nset_W)] [] [] []
noncomputable def lfield_H : Hint E := Hint.mk [] [] [] [] []
noncomputable def lfield_t (_G : Nat → ASt E → Option (List (TV E))) (x0 : Node) (x1 : Int) : Option (List (TV E)) :=
  bif (x1 == (0 : Int)) then none else (bif (x1 == (1 : Int)) then none else (bif (x1 == (2 : Int)) then none else (bif (x1 == (3 : Int)) then none else (bif (x1 == (4 : Int)) then none else (bif (x1 == (5 : Int)) then none else (bif (x1 == (6 : Int)) then (bif (x1 == (6 : Int)) then none else (bif (x1 == (8 : Int)) then (bif (okSet (⟨x0.kind, x0.text, x0.keys, x0.kids⟩ : Node)) then some [⟨.api_Node, (⟨(setVn (⟨x0.kind, x0.text, x0.keys, x0.kids⟩ : Node)).kind, (setVn (⟨x0.kind, x0.text, x0.keys, x0.kids⟩ : Node)).text, (setVn (⟨x0.kind, x0.text, x0.keys, x0.kids⟩ : Node)).keys, (setVn (⟨x0.kind, x0.text, x0.keys, x0.kids⟩ : Node)).kids⟩ : Node)⟩, ⟨.api_Errno, (setEn (⟨x0.kind, x0.text, x0.keys, x0.kids⟩ : Node))⟩] else none) else (bif (x1 == (9 : Int)) then (bif (okPo (⟨x0.kind, x0.text, x0.keys, x0.kids⟩ : Node)) then some [⟨.api_Node, (⟨(poV (⟨x0.kind, x0.text, x0.keys, x0.kids⟩ : Node)).kind, (poV (⟨x0.kind, x0.text, x0.keys, x0.kids⟩ : Node)).text, (poV (⟨x0.kind, x0.text, x0.keys, x0.kids⟩ : Node)).keys, (poV (⟨x0.kind, x0.text, x0.keys, x0.kids⟩ : Node)).kids⟩ : Node)⟩, ⟨.api_Errno, (poE (⟨x0.kind, x0.text, x0.keys, x0.kids⟩ : Node))⟩] else none) else (bif (x1 == (10 : Int)) then none else (bif (x1 == (11 : Int)) then (bif (okDp (⟨x0.kind, x0.text, x0.keys, x0.kids⟩ : Node)) then some [⟨.api_Node, (⟨(dpV (⟨x0.kind, x0.text, x0.keys, x0.kids⟩ : Node)).kind, (dpV (⟨x0.kind, x0.text, x0.keys, x0.kids⟩ : Node)).text, (dpV (⟨x0.kind, x0.text, x0.keys, x0.kids⟩ : Node)).keys, (dpV (⟨x0.kind, x0.text, x0.keys, x0.kids⟩ : Node)).kids⟩ : Node)⟩, ⟨.api_Errno, (dpE (⟨x0.kind, x0.text, x0.keys, x0.kids⟩ : Node))⟩] else none) else (bif (x1 == (12 : Int)) then (bif (okEx (⟨x0.kind, x0.text, x0.keys, x0.kids⟩ : Node)) then some [⟨.api_Node, (⟨(exV (⟨x0.kind, x0.text, x0.keys, x0.kids⟩ : Node)).kind, (exV (⟨x0.kind, x0.text, x0.keys, x0.kids⟩ : Node)).text, (exV (⟨x0.kind, x0.text, x0.keys, x0.kids⟩ : Node)).keys, (exV (⟨x0.kind, x0.text, x0.keys, x0.kids⟩ : Node)).kids⟩ : Node)⟩, ⟨.api_Errno, (exE (⟨x0.kind, x0.text, x0.keys, x0.kids⟩ : Node))⟩] else none) else none)))))) else (bif (x1 == (7 : Int)) then none else (bif (x1 == (8 : Int)) then (bif (okSet (⟨x0.kind, x0.text, x0.keys, x0.kids⟩ : Node)) then some [⟨.api_Node, (⟨(setVn (⟨x0.kind, x0.text, x0.keys, x0.kids⟩ : Node)).kind, (setVn (⟨x0.kind, x0.text, x0.keys, x0.kids⟩ : Node)).text, (setVn (⟨x0.kind, x0.text, x0.keys, x0.kids⟩ : Node)).keys, (setVn (⟨x0.kind, x0.text, x0.keys, x0.kids⟩ : Node)).kids⟩ : Node)⟩, ⟨.api_Errno, (setEn (⟨x0.kind, x0.text, x0.keys, x0.kids⟩ : Node))⟩] else none) else (bif (x1 == (9 : Int)) then (bif (okPo (⟨x0.kind, x0.text, x0.keys, x0.kids⟩ : Node)) then some [⟨.api_Node, (⟨(poV (⟨x0.kind, x0.text, x0.keys, x0.kids⟩ : Node)).kind, (poV (⟨x0.kind, x0.text, x0.keys, x0.kids⟩ : Node)).text, (poV (⟨x0.kind, x0.text, x0.keys, x0.kids⟩ : Node)).keys, (poV (⟨x0.kind, x0.text, x0.keys, x0.kids⟩ : Node)).kids⟩ : Node)⟩, ⟨.api_Errno, (poE (⟨x0.kind, x0.text, x0.keys, x0.kids⟩ : Node))⟩] else none) else (bif (x1 == (10 : Int)) then none else (bif (x1 == (11 : Int)) then (bif (okDp (⟨x0.kind, x0.text, x0.keys, x0.kids⟩ : Node)) then some [⟨.api_Node, (⟨(dpV (⟨x0.kind, x0.text, x0.keys, x0.kids⟩ : Node)).kind, (dpV (⟨x0.kind, x0.text, x0.keys, x0.kids⟩ : Node)).text, (dpV (⟨x0.kind, x0.text, x0.keys, x0.kids⟩ : Node)).keys, (dpV (⟨x0.kind, x0.text, x0.keys, x0.kids⟩ : Node)).kids⟩ : Node)⟩, ⟨.api_Errno, (dpE (⟨x0.kind, x0.text, x0.keys, x0.kids⟩ : Node))⟩] else none) else (bif (x1 == (12 : Int)) then (bif (okEx (⟨x0.kind, x0.text, x0.keys, x0.kids⟩ : Node)) then some [⟨.api_Node, (⟨(exV (⟨x0.kind, x0.text, x0.keys, x0.kids⟩ : Node)).kind, (exV (⟨x0.kind, x0.text, x0.keys, x0.kids⟩ : Node)).text, (exV (⟨x0.kind, x0.text, x0.keys, x0.kids⟩ : Node)).keys, (exV (⟨x0.kind, x0.text, x0.keys, x0.kids⟩ : Node)).kids⟩ : Node)⟩, ⟨.api_Errno, (exE (⟨x0.kind, x0.text, x0.keys, x0.kids⟩ : Node))⟩] else none) else none))))))))))))
theorem lfield_e (G : Nat → ASt E → Option (List (TV E))) (x0 : Node) (x1 : Int) : runE lfield_O lfield_H G Tryz.f10 [⟨.api_Node, x0⟩, ⟨.int, x1⟩] = lfield_t G x0 x1 := by kernel_rfl
theorem lfield_f : Tryz.prog.funcs[10]? = some Tryz.f10 := by kernel_rfl
theorem lfield_n : (Tryz.f10.name == "runtime.NumGoroutine") = false := by kernel_rfl
theorem lfield_b : Tryz.f10.body.isNone = false := by kernel_rfl
theorem lfield_ex : ∃ fn, Tryz.prog.funcs[10]? = some fn ∧ (fn.name == "runtime.NumGoroutine") = false ∧ fn.body.isNone = false := ⟨Tryz.f10, lfield_f, lfield_n, lfield_b⟩
theorem lfield_hO : OracleOk E lfield_O := orac_ok (.cons ndeps_ok (.cons nextends_ok (.cons nports_ok (.cons nset_ok .nil)))) .nil .nil .nil
theorem lfield_ok_of (h : ∀ (x0 : Node) (x1 : Int), okFd x0 x1 = true → lfield_t (Gr E Tryz.f10 [⟨.api_Node, fdV x0 x1⟩, ⟨.api_Errno, fdE x0 x1⟩]) x0 x1 = some [⟨.api_Node, fdV x0 x1⟩, ⟨.api_Errno, fdE x0 x1⟩]) : FnOk E lfield_id lfield_W := fn22_ok lfield_hO mix lfield_f lfield_n lfield_b (fun x0 x1 hk => (lfield_e _ x0 x1).trans (h x0 x1 hk))
theorem lfield_ok : FnOk E lfield_id lfield_W := lfield_ok_of fun n k hk => by
  unfold okFd at hk
  by_cases h8 : k = 12
  · subst h8
    have hk : okEx n = true := hk
    simp [lfield_t, hk, node_eta, fdV, fdE]
  · rw [eqF h8, cond_false] at hk
    by_cases h6 : k = 11
    · subst h6
      have hk : okDp n = true := hk
      simp [lfield_t, hk, node_eta, fdV, fdE]
    · rw [eqF h6] at hk; cases hk
def okRf (n : Node) (k : Int) : Bool := bif k == 12 then okRx n else bif k == 11 then okRd n else false
def rfV (n : Node) (k : Int) : Node := bif k == 12 then rexV n else rdpV n
def rfB (n : Node) (k : Int) : Bool := bif k == 12 then rexB n else rdpB n
noncomputable def rfield_W : FnW E := fn22 (E := E) .api_Node .int .api_Node .bool okRf rfV rfB
def rfield_id : FuncId := 11
noncomputable def rfield_O : Oracle E := orac [(40, q18deps_W), (41, q18ext_W), (36, q18pairs_W), (37, q18set_W)] [] [] []
noncomputable def rfield_H : Hint E := Hint.mk [] [] [] [] []
noncomputable def rfield_t (_G : Nat → ASt E → Option (List (TV E))) (x0 : Node) (x1 : Int) : Option (List (TV E)) :=
  bif (decide (x1 < (5 : Int))) then none else (bif (x1 == (5 : Int)) then none else (bif (bif (x1 == (6 : Int)) then true else (x1 == (7 : Int))) then (bif (okRp (⟨x0.kind, x0.text, x0.keys, x0.kids⟩ : Node) (x1 == (6 : Int))) then some [⟨.api_Node, (⟨(rprV (⟨x0.kind, x0.text, x0.keys, x0.kids⟩ : Node) (x1 == (6 : Int))).kind, (rprV (⟨x0.kind, x0.text, x0.keys, x0.kids⟩ : Node) (x1 == (6 : Int))).text, (rprV (⟨x0.kind, x0.text, x0.keys, x0.kids⟩ : Node) (x1 == (6 : Int))).keys, (rprV (⟨x0.kind, x0.text, x0.keys, x0.kids⟩ : Node) (x1 == (6 : Int))).kids⟩ : Node)⟩, ⟨.bool, (rprB (⟨x0.kind, x0.text, x0.keys, x0.kids⟩ : Node) (x1 == (6 : Int)))⟩] else none) else (bif (x1 == (8 : Int)) then (bif (okRs (⟨x0.kind, x0.text, x0.keys, x0.kids⟩ : Node)) then some [⟨.api_Node, (⟨(rsetV (⟨x0.kind, x0.text, x0.keys, x0.kids⟩ : Node)).kind, (rsetV (⟨x0.kind, x0.text, x0.keys, x0.kids⟩ : Node)).text, (rsetV (⟨x0.kind, x0.text, x0.keys, x0.kids⟩ : Node)).keys, (rsetV (⟨x0.kind, x0.text, x0.keys, x0.kids⟩ : Node)).kids⟩ : Node)⟩, ⟨.bool, (rsetB (⟨x0.kind, x0.text, x0.keys, x0.kids⟩ : Node))⟩] else none) else (bif (x1 == (9 : Int)) then none else (bif (x1 == (10 : Int)) then none else (bif (x1 == (11 : Int)) then (bif (okRd (⟨x0.kind, x0.text, x0.keys, x0.kids⟩ : Node)) then some [⟨.api_Node, (⟨(rdpV (⟨x0.kind, x0.text, x0.keys, x0.kids⟩ : Node)).kind, (rdpV (⟨x0.kind, x0.text, x0.keys, x0.kids⟩ : Node)).text, (rdpV (⟨x0.kind, x0.text, x0.keys, x0.kids⟩ : Node)).keys, (rdpV (⟨x0.kind, x0.text, x0.keys, x0.kids⟩ : Node)).kids⟩ : Node)⟩, ⟨.bool, (rdpB (⟨x0.kind, x0.text, x0.keys, x0.kids⟩ : Node))⟩] else none) else (bif (x1 == (12 : Int)) then (bif (okRx (⟨x0.kind, x0.text, x0.keys, x0.kids⟩ : Node)) then some [⟨.api_Node, (⟨(rexV (⟨x0.kind, x0.text, x0.keys, x0.kids⟩ : Node)).kind, (rexV (⟨x0.kind, x0.text, x0.keys, x0.kids⟩ : Node)).text, (rexV (⟨x0.kind, x0.text, x0.keys, x0.kids⟩ : Node)).keys, (rexV (⟨x0.kind, x0.text, x0.keys, x0.kids⟩ : Node)).kids⟩ : Node)⟩, ⟨.bool, (rexB (⟨x0.kind, x0.text, x0.keys, x0.kids⟩ : Node))⟩] else none) else none)))))))
theorem rfield_e (G : Nat → ASt E → Option (List (TV E))) (x0 : Node) (x1 : Int) : runE rfield_O rfield_H G Tryz.f11 [⟨.api_Node, x0⟩, ⟨.int, x1⟩] = rfield_t G x0 x1 := by kernel_rfl
theorem rfield_f : Tryz.prog.funcs[11]? = some Tryz.f11 := by kernel_rfl
theorem rfield_n : (Tryz.f11.name == "runtime.NumGoroutine") = false := by kernel_rfl
theorem rfield_b : Tryz.f11.body.isNone = false := by kernel_rfl
theorem rfield_ex : ∃ fn, Tryz.prog.funcs[11]? = some fn ∧ (fn.name == "runtime.NumGoroutine") = false ∧ fn.body.isNone = false := ⟨Tryz.f11, rfield_f, rfield_n, rfield_b⟩
theorem rfield_hO : OracleOk E rfield_O := orac_ok (.cons q18deps_ok (.cons q18ext_ok (.cons q18pairs_ok (.cons q18set_ok .nil)))) .nil .nil .nil
theorem rfield_ok_of (h : ∀ (x0 : Node) (x1 : Int), okRf x0 x1 = true → rfield_t (Gr E Tryz.f11 [⟨.api_Node, rfV x0 x1⟩, ⟨.bool, rfB x0 x1⟩]) x0 x1 = some [⟨.api_Node, rfV x0 x1⟩, ⟨.bool, rfB x0 x1⟩]) : FnOk E rfield_id rfield_W := fn22_ok rfield_hO mix rfield_f rfield_n rfield_b (fun x0 x1 hk => (rfield_e _ x0 x1).trans (h x0 x1 hk))
theorem rfield_ok : FnOk E rfield_id rfield_W := rfield_ok_of fun n k hk => by
  unfold okRf at hk
  by_cases h8 : k = 12
  · subst h8
    have hk : okRx n = true := hk
    simp [rfield_t, hk, node_eta, rfV, rfB]
  · rw [eqF h8, cond_false] at hk
    by_cases h6 : k = 11
    · subst h6
      have hk : okRd n = true := hk
      simp [rfield_t, hk, node_eta, rfV, rfB]
    · rw [eqF h6] at hk; cases hk
/-- What a field's question comes to. -/
structure Ask (n : Node) (k : Int) : Prop where
  f : okFd n k = true
  r : okRf n k = true
  v : fdV n k = rfV n k
  e : fdE n k = (bif rfB n k then 0 else 10)
  s : okS 12 (rfV n k) (rfV n k) = true
  again : rfB n k = true → okFd (rfV n k) k = true ∧ fdV (rfV n k) k = rfV n k ∧ fdE (rfV n k) k = 0
theorem ask_deps {n : Node} (g : Sm n) : Ask n 11 := by
  obtain ⟨h1, h2, h3⟩ := g.deps
  obtain ⟨⟨a1, a2⟩, a3⟩ := deps_eq h3
  refine ⟨h1, h2, a1, a2, ?_, fun hb => ?_⟩
  · refine okS_wg ?_
    show wg 10000 12 (rdpV n) = true
    cases hb : rdpB n with
    | true => exact (a3 hb).wg_ isEd_wk
    | false =>
      have : rdpV n = zn := by
        have hb : doneB (rdP n).1 (rdP n).2 = false := hb
        show doneV (rdP n).1 (rdP n).2 = zn
        unfold doneV; rw [hb]; rfl
      rw [this]; exact zn_wg12
  · have sf := a3 hb
    have gx : Ge (rdpV n) := ⟨fun _ => sf.len, fun y hy => isEd_ky (sf.kid y hy)⟩
    have ok : okDp (rdpV n) = true := okDp_of (fun _ => sf.len) (by have := sf.le; omega) (by have := sf.le; have := sf.len; omega) (fun k hk => by have := name_len (sf.key k hk); omega) (fun y hy => by
      have := sf.kid y hy
      rw [← this.2]; exact Nat.zero_le _) fun y hy => (isEd_ky (sf.kid y hy)).ok (wg_fit (isEd_wk y (sf.kid y hy)).1 (by decide))
    obtain ⟨⟨b1, b2⟩, _⟩ := deps_eq gx
    obtain ⟨c1, c2⟩ := deps_self sf
    exact ⟨ok, b1.trans c1, by show dpE (rdpV n) = 0; rw [b2, c2]; rfl⟩
theorem ask_ext {n : Node} (g : Sm n) : Ask n 12 := by
  obtain ⟨gx, hx⟩ := g.ext
  obtain ⟨⟨a1, a2⟩, a3⟩ := ext_eq gx
  refine ⟨okEx_of gx hx (fun e => kd_zero g.kd_ (by omega)), okRx_of gx, a1, a2, ?_, fun hb => ?_⟩
  · refine okS_wg ?_
    show wg 10000 12 (rexV n) = true
    cases hb : rexB n with
    | true => exact (a3 hb).1.wg_ isTx_wk
    | false =>
      have : rexV n = zn := by
        unfold rexB at hb
        unfold rexV
        cases h1 : onlB (ex1 n) [svK, fiK] with
        | false => rfl
        | true =>
          cases h2 : rxB (ex1 n) with
          | true => rfl
          | false =>
            rw [h1, h2] at hb
            have hb : doneB (ex1 n) true = false := hb
            show doneV (ex1 n) true = zn
            unfold doneV; rw [hb]; rfl
      rw [this]; exact zn_wg12
  · obtain ⟨sf, e1, e2, e3⟩ := a3 hb
    obtain ⟨q1, q2⟩ := sf.gx
    have ea : ex1 (rexV n) = rexV n := by unfold ex1; rw [eqF (by rw [sf.kind]; decide)]; rfl
    have q1' : Gx (ex1 (rexV n)) := by rw [ea]; exact q1
    obtain ⟨⟨b1, b2⟩, _⟩ := ext_eq q1'
    obtain ⟨c1, c2⟩ := ext_self gx e2 e3 e1 sf
    have ok : okEx (rexV n) = true := okEx_of q1' (by rw [ea]; exact q2) (fun e => by rw [sf.kind] at e; cases e)
    exact ⟨ok, b1.trans c1, by show exE (rexV n) = 0; rw [b2, c2]; rfl⟩
def okAs (n : Node) (k : Int) : Bool := (k == 11 || k == 12) && smallV n 100
theorem ask_of {n : Node} {k : Int} (hk : okAs n k = true) : Ask n k := by
  simp only [okAs, Bool.and_eq_true, Bool.or_eq_true, beq_iff_eq] at hk
  have g := sm_of (by decide) hk.2
  rcases hk.1 with rfl | rfl
  · exact ask_deps g
  · exact ask_ext g
noncomputable def lasked_W : FnW E := fn2 (E := E) .api_Node .int .bool okAs (fun _ _ => true)
def lasked_id : FuncId := 6
noncomputable def lasked_O : Oracle E := orac [(10, lfield_W), (12, rnsame_W 12), (11, rfield_W)] [] [] []
noncomputable def lasked_H : Hint E := Hint.mk [] [] [] [] []
noncomputable def lasked_t (_G : Nat → ASt E → Option (List (TV E))) (x0 : Node) (x1 : Int) : Option (List (TV E)) :=
  bif (okFd (⟨x0.kind, x0.text, x0.keys, x0.kids⟩ : Node) x1) then (bif (okRf (⟨x0.kind, x0.text, x0.keys, x0.kids⟩ : Node) x1) then (bif ((okS 12) (⟨(fdV (⟨x0.kind, x0.text, x0.keys, x0.kids⟩ : Node) x1).kind, (fdV (⟨x0.kind, x0.text, x0.keys, x0.kids⟩ : Node) x1).text, (fdV (⟨x0.kind, x0.text, x0.keys, x0.kids⟩ : Node) x1).keys, (fdV (⟨x0.kind, x0.text, x0.keys, x0.kids⟩ : Node) x1).kids⟩ : Node) (⟨(rfV (⟨x0.kind, x0.text, x0.keys, x0.kids⟩ : Node) x1).kind, (rfV (⟨x0.kind, x0.text, x0.keys, x0.kids⟩ : Node) x1).text, (rfV (⟨x0.kind, x0.text, x0.keys, x0.kids⟩ : Node) x1).keys, (rfV (⟨x0.kind, x0.text, x0.keys, x0.kids⟩ : Node) x1).kids⟩ : Node)) then (bif (bif (bif (!((same 12) (⟨(fdV (⟨x0.kind, x0.text, x0.keys, x0.kids⟩ : Node) x1).kind, (fdV (⟨x0.kind, x0.text, x0.keys, x0.kids⟩ : Node) x1).text, (fdV (⟨x0.kind, x0.text, x0.keys, x0.kids⟩ : Node) x1).keys, (fdV (⟨x0.kind, x0.text, x0.keys, x0.kids⟩ : Node) x1).kids⟩ : Node) (⟨(rfV (⟨x0.kind, x0.text, x0.keys, x0.kids⟩ : Node) x1).kind, (rfV (⟨x0.kind, x0.text, x0.keys, x0.kids⟩ : Node) x1).text, (rfV (⟨x0.kind, x0.text, x0.keys, x0.kids⟩ : Node) x1).keys, (rfV (⟨x0.kind, x0.text, x0.keys, x0.kids⟩ : Node) x1).kids⟩ : Node))) then true else (!(((fdE (⟨x0.kind, x0.text, x0.keys, x0.kids⟩ : Node) x1) == (0 : Int)) == (rfB (⟨x0.kind, x0.text, x0.keys, x0.kids⟩ : Node) x1)))) then true else (bif (!(rfB (⟨x0.kind, x0.text, x0.keys, x0.kids⟩ : Node) x1)) then ((fdE (⟨x0.kind, x0.text, x0.keys, x0.kids⟩ : Node) x1) != (10 : Int)) else false)) then some [⟨.bool, false⟩] else (bif (!(rfB (⟨x0.kind, x0.text, x0.keys, x0.kids⟩ : Node) x1)) then some [⟨.bool, true⟩] else (bif (okFd (⟨(fdV (⟨x0.kind, x0.text, x0.keys, x0.kids⟩ : Node) x1).kind, (fdV (⟨x0.kind, x0.text, x0.keys, x0.kids⟩ : Node) x1).text, (fdV (⟨x0.kind, x0.text, x0.keys, x0.kids⟩ : Node) x1).keys, (fdV (⟨x0.kind, x0.text, x0.keys, x0.kids⟩ : Node) x1).kids⟩ : Node) x1) then (bif (((okS 12) (⟨(fdV (⟨x0.kind, x0.text, x0.keys, x0.kids⟩ : Node) x1).kind, (fdV (⟨x0.kind, x0.text, x0.keys, x0.kids⟩ : Node) x1).text, (fdV (⟨x0.kind, x0.text, x0.keys, x0.kids⟩ : Node) x1).keys, (fdV (⟨x0.kind, x0.text, x0.keys, x0.kids⟩ : Node) x1).kids⟩ : Node) (⟨(fdV (⟨(fdV (⟨x0.kind, x0.text, x0.keys, x0.kids⟩ : Node) x1).kind, (fdV (⟨x0.kind, x0.text, x0.keys, x0.kids⟩ : Node) x1).text, (fdV (⟨x0.kind, x0.text, x0.keys, x0.kids⟩ : Node) x1).keys, (fdV (⟨x0.kind, x0.text, x0.keys, x0.kids⟩ : Node) x1).kids⟩ : Node) x1).kind, (fdV (⟨(fdV (⟨x0.kind, x0.text, x0.keys, x0.kids⟩ : Node) x1).kind, (fdV (⟨x0.kind, x0.text, x0.keys, x0.kids⟩ : Node) x1).text, (fdV (⟨x0.kind, x0.text, x0.keys, x0.kids⟩ : Node) x1).keys, (fdV (⟨x0.kind, x0.text, x0.keys, x0.kids⟩ : Node) x1).kids⟩ : Node) x1).text, (fdV (⟨(fdV (⟨x0.kind, x0.text, x0.keys, x0.kids⟩ : Node) x1).kind, (fdV (⟨x0.kind, x0.text, x0.keys, x0.kids⟩ : Node) x1).text, (fdV (⟨x0.kind, x0.text, x0.keys, x0.kids⟩ : Node) x1).keys, (fdV (⟨x0.kind, x0.text, x0.keys, x0.kids⟩ : Node) x1).kids⟩ : Node) x1).keys, (fdV (⟨(fdV (⟨x0.kind, x0.text, x0.keys, x0.kids⟩ : Node) x1).kind, (fdV (⟨x0.kind, x0.text, x0.keys, x0.kids⟩ : Node) x1).text, (fdV (⟨x0.kind, x0.text, x0.keys, x0.kids⟩ : Node) x1).keys, (fdV (⟨x0.kind, x0.text, x0.keys, x0.kids⟩ : Node) x1).kids⟩ : Node) x1).kids⟩ : Node)) || !((fdE (⟨(fdV (⟨x0.kind, x0.text, x0.keys, x0.kids⟩ : Node) x1).kind, (fdV (⟨x0.kind, x0.text, x0.keys, x0.kids⟩ : Node) x1).text, (fdV (⟨x0.kind, x0.text, x0.keys, x0.kids⟩ : Node) x1).keys, (fdV (⟨x0.kind, x0.text, x0.keys, x0.kids⟩ : Node) x1).kids⟩ : Node) x1) == (0 : Int))) then some [⟨.bool, (bif ((fdE (⟨(fdV (⟨x0.kind, x0.text, x0.keys, x0.kids⟩ : Node) x1).kind, (fdV (⟨x0.kind, x0.text, x0.keys, x0.kids⟩ : Node) x1).text, (fdV (⟨x0.kind, x0.text, x0.keys, x0.kids⟩ : Node) x1).keys, (fdV (⟨x0.kind, x0.text, x0.keys, x0.kids⟩ : Node) x1).kids⟩ : Node) x1) == (0 : Int)) then ((same 12) (⟨(fdV (⟨x0.kind, x0.text, x0.keys, x0.kids⟩ : Node) x1).kind, (fdV (⟨x0.kind, x0.text, x0.keys, x0.kids⟩ : Node) x1).text, (fdV (⟨x0.kind, x0.text, x0.keys, x0.kids⟩ : Node) x1).keys, (fdV (⟨x0.kind, x0.text, x0.keys, x0.kids⟩ : Node) x1).kids⟩ : Node) (⟨(fdV (⟨(fdV (⟨x0.kind, x0.text, x0.keys, x0.kids⟩ : Node) x1).kind, (fdV (⟨x0.kind, x0.text, x0.keys, x0.kids⟩ : Node) x1).text, (fdV (⟨x0.kind, x0.text, x0.keys, x0.kids⟩ : Node) x1).keys, (fdV (⟨x0.kind, x0.text, x0.keys, x0.kids⟩ : Node) x1).kids⟩ : Node) x1).kind, (fdV (⟨(fdV (⟨x0.kind, x0.text, x0.keys, x0.kids⟩ : Node) x1).kind, (fdV (⟨x0.kind, x0.text, x0.keys, x0.kids⟩ : Node) x1).text, (fdV (⟨x0.kind, x0.text, x0.keys, x0.kids⟩ : Node) x1).keys, (fdV (⟨x0.kind, x0.text, x0.keys, x0.kids⟩ : Node) x1).kids⟩ : Node) x1).text, (fdV (⟨(fdV (⟨x0.kind, x0.text, x0.keys, x0.kids⟩ : Node) x1).kind, (fdV (⟨x0.kind, x0.text, x0.keys, x0.kids⟩ : Node) x1).text, (fdV (⟨x0.kind, x0.text, x0.keys, x0.kids⟩ : Node) x1).keys, (fdV (⟨x0.kind, x0.text, x0.keys, x0.kids⟩ : Node) x1).kids⟩ : Node) x1).keys, (fdV (⟨(fdV (⟨x0.kind, x0.text, x0.keys, x0.kids⟩ : Node) x1).kind, (fdV (⟨x0.kind, x0.text, x0.keys, x0.kids⟩ : Node) x1).text, (fdV (⟨x0.kind, x0.text, x0.keys, x0.kids⟩ : Node) x1).keys, (fdV (⟨x0.kind, x0.text, x0.keys, x0.kids⟩ : Node) x1).kids⟩ : Node) x1).kids⟩ : Node)) else false)⟩] else none) else none))) else none) else none) else none
theorem lasked_e (G : Nat → ASt E → Option (List (TV E))) (x0 : Node) (x1 : Int) : runE lasked_O lasked_H G Tryz.f6 [⟨.api_Node, x0⟩, ⟨.int, x1⟩] = lasked_t G x0 x1 := by kernel_rfl
theorem lasked_f : Tryz.prog.funcs[6]? = some Tryz.f6 := by kernel_rfl
theorem lasked_n : (Tryz.f6.name == "runtime.NumGoroutine") = false := by kernel_rfl
theorem lasked_b : Tryz.f6.body.isNone = false := by kernel_rfl
theorem lasked_ex : ∃ fn, Tryz.prog.funcs[6]? = some fn ∧ (fn.name == "runtime.NumGoroutine") = false ∧ fn.body.isNone = false := ⟨Tryz.f6, lasked_f, lasked_n, lasked_b⟩
theorem lasked_hO : OracleOk E lasked_O := orac_ok (.cons lfield_ok (.cons (rnsame_ok 12) (.cons rfield_ok .nil))) .nil .nil .nil
theorem lasked_ok_of (h : ∀ (x0 : Node) (x1 : Int), okAs x0 x1 = true → lasked_t (Gr E Tryz.f6 [⟨.bool, (fun _ _ => true) x0 x1⟩]) x0 x1 = some [⟨.bool, (fun _ _ => true) x0 x1⟩]) : FnOk E lasked_id lasked_W := fn2_ok lasked_hO mix lasked_f lasked_n lasked_b (fun x0 x1 hk => (lasked_e _ x0 x1).trans (h x0 x1 hk))
theorem lasked_ok : FnOk E lasked_id lasked_W := lasked_ok_of fun n k hk => by
  have q := ask_of hk
  have q1 := q.s
  have q2 : same 12 (rfV n k) (rfV n k) = true := same_refl 12 _ (by have := q.s; simp only [okS, Bool.and_eq_true] at this; exact this.1)
  simp only [lasked_t, node_eta, q.f, q.r, q.v, q.e, q1, q2, cond_true, Bool.not_true]
  cases hb : rfB n k with
  | false => rfl
  | true =>
    obtain ⟨p1, p2, p3⟩ := q.again hb
    simp only [cond_true, cond_false, Bool.not_true, node_eta, p1, p2, p3, q1, q2, Bool.true_or]
    rfl
noncomputable def law_W : FnW E := fn1 (E := E) .api_Node .bool (fun _ => true) (fun _ => true)
def law_id : FuncId := 3
noncomputable def law_O : Oracle E := orac [(6, lasked_W), (5, awake_W), (4, small_W)] [] [] []
noncomputable def law_H : Hint E := Hint.mk [] [] [] [] []
noncomputable def law_t (_G : Nat → ASt E → Option (List (TV E))) (x0 : Node) : Option (List (TV E)) :=
  bif (okSm (⟨x0.kind, x0.text, x0.keys, x0.kids⟩ : Node) (100 : Int)) then (bif (!(smallV (⟨x0.kind, x0.text, x0.keys, x0.kids⟩ : Node) (100 : Int))) then some [⟨.bool, true⟩] else (bif (okAs (⟨x0.kind, x0.text, x0.keys, x0.kids⟩ : Node) (11 : Int)) then (bif ((okAs (⟨x0.kind, x0.text, x0.keys, x0.kids⟩ : Node) (12 : Int)) || !((fun _ _ => true) (⟨x0.kind, x0.text, x0.keys, x0.kids⟩ : Node) (11 : Int))) then some [⟨.bool, (bif (bif ((fun _ _ => true) (⟨x0.kind, x0.text, x0.keys, x0.kids⟩ : Node) (11 : Int)) then ((fun _ _ => true) (⟨x0.kind, x0.text, x0.keys, x0.kids⟩ : Node) (12 : Int)) else false) then true else false)⟩] else none) else none)) else none
theorem law_e (G : Nat → ASt E → Option (List (TV E))) (x0 : Node) : runE law_O law_H G Tryz.f3 [⟨.api_Node, x0⟩] = law_t G x0 := by kernel_rfl
theorem law_f : Tryz.prog.funcs[3]? = some Tryz.f3 := by kernel_rfl
theorem law_n : (Tryz.f3.name == "runtime.NumGoroutine") = false := by kernel_rfl
theorem law_b : Tryz.f3.body.isNone = false := by kernel_rfl
theorem law_ex : ∃ fn, Tryz.prog.funcs[3]? = some fn ∧ (fn.name == "runtime.NumGoroutine") = false ∧ fn.body.isNone = false := ⟨Tryz.f3, law_f, law_n, law_b⟩
theorem law_hO : OracleOk E law_O := orac_ok (.cons lasked_ok (.cons awake_ok (.cons small_ok .nil))) .nil .nil .nil
theorem law_ok_of (h : ∀ (x0 : Node), law_t (Gr E Tryz.f3 [⟨.bool, (fun _ => true) x0⟩]) x0 = some [⟨.bool, (fun _ => true) x0⟩]) : FnOk E law_id law_W := fn1_ok law_hO mix law_f law_n law_b (fun x0 _ => (law_e _ x0).trans (h x0))
theorem law_ok : FnOk E law_id law_W := law_ok_of fun n => by
  have e0 : okSm n 100 = true := rfl
  simp only [law_t, node_eta, e0, cond_true]
  cases hs : smallV n 100 with
  | false => rfl
  | true =>
    have q : ∀ k : Int, (k == 11 || k == 12) = true → okAs n k = true := fun k hk => by
      simp only [okAs, hk, hs, Bool.true_and]
    simp only [q 11 rfl, q 12 rfl, cond_true, cond_false, Bool.not_true, Bool.true_or]
end Go.Proofs.YtpmknebhacaocaaGreatDoor.Rf