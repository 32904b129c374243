/- NormMaps: what the law's function computes. -/
import Derived.Test.YtdpjmdgeeogmgaaGreatDoorN12
import Derived.Test.YtdpjmdgeeogmgaaGreatDoorN13
namespace Go.Proofs.YtdpjmdgeeogmgaaGreatDoor.Rf
open Go Go.RowKit Go.Sort Go.Proofs.YtdpjmdgeeogmgaaGreatDoor.Mir
/-! ### What is small has kinds that there are -/
theorem left_kd : ∀ (n : Nat) (x : Node) (d l : Int), d + (n + 1 : Nat) = 14 → 0 ≤ leftV (n + 1) x d l → kd n x = true
  | n, x, d, l, hd, h => by
    unfold leftV at h
    cases h1 : badA x d (l - 1) with
    | true => rw [h1, cond_true] at h; omega
    | false =>
      cases h2 : badB x with
      | true => rw [h1, h2, cond_false, cond_true] at h; omega
      | false =>
        cases h3 : badC x (l - 1) with
        | true => rw [h1, h2, h3, cond_false, cond_false, cond_true] at h; omega
        | false =>
          rw [h1, h2, h3, cond_false, cond_false, cond_false] at h
          have hA : ¬ 12 < d ∧ 0 ≤ x.kind ∧ x.kind ≤ 3 := by
            unfold badA at h1
            refine ⟨fun a => ?_, ?_⟩
            · rw [dT a] at h1
              cases hx : decide (l - 1 < 0) <;> rw [hx] at h1 <;> cases h1
            · by_cases a : x.kind < 0
              · rw [dT a] at h1
                cases hx : decide (l - 1 < 0) <;> cases hy : decide (12 < d) <;> rw [hx, hy] at h1 <;> cases h1
              · by_cases b : 3 < x.kind
                · rw [dT b] at h1
                  cases hx : decide (l - 1 < 0) <;> cases hy : decide (12 < d) <;> cases hz : decide (x.kind < 0) <;> rw [hx, hy, hz] at h1 <;> cases h1
                · omega
          obtain ⟨m, rfl⟩ : ∃ m, n = m + 1 := ⟨n - 1, by omega⟩
          obtain ⟨q1, q2⟩ := kidsV_le (fun k l h => leftV_le (m + 1) k (d + 1) l h) x.kids (l - 1) h
          have hrec : ∀ y ∈ x.kids, kd m y = true := fun y hy => by
            obtain ⟨l', h4, h5⟩ := q2 y hy
            exact left_kd m y (d + 1) l' (by omega) h4
          have hB : (x.kind ≠ 3 → x.keys.length = 0) ∧ (x.kind < 2 → x.kids.length = 0) := by
            unfold badB at h2
            constructor
            · intro e
              by_cases a1 : (0 : Int) < (x.keys.length : Int)
              · rw [neT e, dT a1] at h2
                cases hx : (bif x.kind != 1 then decide ((0 : Int) < (x.text.length : Int)) else false) <;> rw [hx] at h2 <;> cases h2
              · omega
            · intro e
              by_cases a1 : (0 : Int) < (x.kids.length : Int)
              · rw [dT e, dT a1] at h2
                cases hx : (bif x.kind != 1 then decide ((0 : Int) < (x.text.length : Int)) else false) <;> cases hy : (bif x.kind != 3 then decide ((0 : Int) < (x.keys.length : Int)) else false) <;> rw [hx, hy] at h2 <;> cases h2
              · omega
          exact kd_iff.2 ⟨⟨hA.2, hB.1⟩, hB.2, hrec⟩
  termination_by n => n
theorem small_nd_ {x : Node} {m : Int} (hm : m ≤ 200) (h : smallV x m = true) : okNd 12 x = true := by
  have hw := small_wf hm h
  unfold smallV at h
  by_cases h0 : 0 ≤ leftV 13 x 1 m
  · simp only [okNd, hw, left_kd 12 x 1 m (by decide) h0, Bool.and_self]
  · rw [dF h0] at h; cases h
theorem small_nd {x : Node} (h : smallV x 200 = true) : okNd 12 x = true := small_nd_ (by decide) h
theorem sameW_refl {f : Node → Node → Bool} : ∀ (l : List Node), (∀ x ∈ l, f x x = true) → sameW f l l = true
  | [], _ => rfl
  | a :: t, h => by
    unfold sameW
    rw [h a List.mem_cons_self, sameW_refl t fun x hx => h x (List.mem_cons_of_mem _ hx)]
    rfl
theorem same_refl : ∀ (n : Nat) (x : Node), dp n x = true → same n x x = true
  | 0, _, h => by cases h
  | n + 1, x, h => by
    unfold same
    rw [sameW_refl x.kids fun y hy => same_refl n y ((dp_iff.1 h).2 y hy)]
    simp
/-! ### The law's own functions: a field, asked of both; the law's example -/
def okFd (n : Node) (k : Int) : Bool := bif k == 8 then okSet n else bif k == 6 then okPrs n true else bif k == 7 then okPrs n false else false
def fdV (n : Node) (k : Int) : Node := bif k == 8 then setVn n else prsV n (k == 6)
def fdE (n : Node) (k : Int) : Int := bif k == 8 then setEn n else prsE n (k == 6)
noncomputable def lfield_W : FnW E := fn22 (E := E) .api_Node .int .api_Node .api_Errno okFd fdV fdE
def lfield_id : FuncId := 10
noncomputable def lfield_O : Oracle E := orac [(28, npairs_W), (9, nports_W), (29, nset_W)] [] [] []
noncomputable def lfield_H : Hint E := Hint.mk [] [] [] [] []
noncomputable def lfield_t (_G : Nat → ASt E → Option (List (TV E))) (x0 : Node) (x1 : Int) : Option (List (TV E)) :=
  bif (x1 == (0 : Int)) then none else (bif (x1 == (1 : Int)) then none else (bif (x1 == (2 : Int)) then none else (bif (x1 == (3 : Int)) then none else (bif (x1 == (4 : Int)) then none else (bif (x1 == (5 : Int)) then none else (bif (x1 == (6 : Int)) then (bif (x1 == (6 : Int)) then (bif (okPrs (⟨x0.kind, x0.text, x0.keys, x0.kids⟩ : Node) (x1 == (6 : Int))) then some [⟨.api_Node, (⟨(prsV (⟨x0.kind, x0.text, x0.keys, x0.kids⟩ : Node) (x1 == (6 : Int))).kind, (prsV (⟨x0.kind, x0.text, x0.keys, x0.kids⟩ : Node) (x1 == (6 : Int))).text, (prsV (⟨x0.kind, x0.text, x0.keys, x0.kids⟩ : Node) (x1 == (6 : Int))).keys, (prsV (⟨x0.kind, x0.text, x0.keys, x0.kids⟩ : Node) (x1 == (6 : Int))).kids⟩ : Node)⟩, ⟨.api_Errno, (prsE (⟨x0.kind, x0.text, x0.keys, x0.kids⟩ : Node) (x1 == (6 : Int)))⟩] else none) else (bif (x1 == (8 : Int)) then (bif (okSet (⟨x0.kind, x0.text, x0.keys, x0.kids⟩ : Node)) then some [⟨.api_Node, (⟨(setVn (⟨x0.kind, x0.text, x0.keys, x0.kids⟩ : Node)).kind, (setVn (⟨x0.kind, x0.text, x0.keys, x0.kids⟩ : Node)).text, (setVn (⟨x0.kind, x0.text, x0.keys, x0.kids⟩ : Node)).keys, (setVn (⟨x0.kind, x0.text, x0.keys, x0.kids⟩ : Node)).kids⟩ : Node)⟩, ⟨.api_Errno, (setEn (⟨x0.kind, x0.text, x0.keys, x0.kids⟩ : Node))⟩] else none) else (bif (x1 == (9 : Int)) then (bif (okPo (⟨x0.kind, x0.text, x0.keys, x0.kids⟩ : Node)) then some [⟨.api_Node, (⟨(poV (⟨x0.kind, x0.text, x0.keys, x0.kids⟩ : Node)).kind, (poV (⟨x0.kind, x0.text, x0.keys, x0.kids⟩ : Node)).text, (poV (⟨x0.kind, x0.text, x0.keys, x0.kids⟩ : Node)).keys, (poV (⟨x0.kind, x0.text, x0.keys, x0.kids⟩ : Node)).kids⟩ : Node)⟩, ⟨.api_Errno, (poE (⟨x0.kind, x0.text, x0.keys, x0.kids⟩ : Node))⟩] else none) else (bif (x1 == (10 : Int)) then none else (bif (x1 == (11 : Int)) then none else (bif (x1 == (12 : Int)) then none else none)))))) else (bif (x1 == (7 : Int)) then (bif (okPrs (⟨x0.kind, x0.text, x0.keys, x0.kids⟩ : Node) (x1 == (6 : Int))) then some [⟨.api_Node, (⟨(prsV (⟨x0.kind, x0.text, x0.keys, x0.kids⟩ : Node) (x1 == (6 : Int))).kind, (prsV (⟨x0.kind, x0.text, x0.keys, x0.kids⟩ : Node) (x1 == (6 : Int))).text, (prsV (⟨x0.kind, x0.text, x0.keys, x0.kids⟩ : Node) (x1 == (6 : Int))).keys, (prsV (⟨x0.kind, x0.text, x0.keys, x0.kids⟩ : Node) (x1 == (6 : Int))).kids⟩ : Node)⟩, ⟨.api_Errno, (prsE (⟨x0.kind, x0.text, x0.keys, x0.kids⟩ : Node) (x1 == (6 : Int)))⟩] else none) else (bif (x1 == (8 : Int)) then (bif (okSet (⟨x0.kind, x0.text, x0.keys, x0.kids⟩ : Node)) then some [⟨.api_Node, (⟨(setVn (⟨x0.kind, x0.text, x0.keys, x0.kids⟩ : Node)).kind, (setVn (⟨x0.kind, x0.text, x0.keys, x0.kids⟩ : Node)).text, (setVn (⟨x0.kind, x0.text, x0.keys, x0.kids⟩ : Node)).keys, (setVn (⟨x0.kind, x0.text, x0.keys, x0.kids⟩ : Node)).kids⟩ : Node)⟩, ⟨.api_Errno, (setEn (⟨x0.kind, x0.text, x0.keys, x0.kids⟩ : Node))⟩] else none) else (bif (x1 == (9 : Int)) then (bif (okPo (⟨x0.kind, x0.text, x0.keys, x0.kids⟩ : Node)) then some [⟨.api_Node, (⟨(poV (⟨x0.kind, x0.text, x0.keys, x0.kids⟩ : Node)).kind, (poV (⟨x0.kind, x0.text, x0.keys, x0.kids⟩ : Node)).text, (poV (⟨x0.kind, x0.text, x0.keys, x0.kids⟩ : Node)).keys, (poV (⟨x0.kind, x0.text, x0.keys, x0.kids⟩ : Node)).kids⟩ : Node)⟩, ⟨.api_Errno, (poE (⟨x0.kind, x0.text, x0.keys, x0.kids⟩ : Node))⟩] else none) else (bif (x1 == (10 : Int)) then none else (bif (x1 == (11 : Int)) then none else (bif (x1 == (12 : Int)) then none else none))))))))))))
theorem lfield_e (G : Nat → ASt E → Option (List (TV E))) (x0 : Node) (x1 : Int) : runE lfield_O lfield_H G Tryz.f10 [⟨.api_Node, x0⟩, ⟨.int, x1⟩] = lfield_t G x0 x1 := by kernel_rfl
theorem lfield_f : Tryz.prog.funcs[10]? = some Tryz.f10 := by kernel_rfl
theorem lfield_n : (Tryz.f10.name == "runtime.NumGoroutine") = false := by kernel_rfl
theorem lfield_b : Tryz.f10.body.isNone = false := by kernel_rfl
theorem lfield_ex : ∃ fn, Tryz.prog.funcs[10]? = some fn ∧ (fn.name == "runtime.NumGoroutine") = false ∧ fn.body.isNone = false := ⟨Tryz.f10, lfield_f, lfield_n, lfield_b⟩
theorem lfield_hO : OracleOk E lfield_O := orac_ok (.cons npairs_ok (.cons nports_ok (.cons nset_ok .nil))) .nil .nil .nil
theorem lfield_ok_of (h : ∀ (x0 : Node) (x1 : Int), okFd x0 x1 = true → lfield_t (Gr E Tryz.f10 [⟨.api_Node, fdV x0 x1⟩, ⟨.api_Errno, fdE x0 x1⟩]) x0 x1 = some [⟨.api_Node, fdV x0 x1⟩, ⟨.api_Errno, fdE x0 x1⟩]) : FnOk E lfield_id lfield_W := fn22_ok lfield_hO mix lfield_f lfield_n lfield_b (fun x0 x1 hk => (lfield_e _ x0 x1).trans (h x0 x1 hk))
theorem lfield_ok : FnOk E lfield_id lfield_W := lfield_ok_of fun n k hk => by
  unfold okFd at hk
  by_cases h8 : k = 8
  · subst h8
    have hk : okSet n = true := hk
    simp [lfield_t, hk, node_eta, fdV, fdE]
  · rw [eqF h8, cond_false] at hk
    by_cases h6 : k = 6
    · subst h6
      have hk : okPrs n true = true := hk
      simp [lfield_t, hk, node_eta, fdV, fdE]
    · rw [eqF h6, cond_false] at hk
      by_cases h7 : k = 7
      · subst h7
        have hk : okPrs n false = true := hk
        simp [lfield_t, hk, node_eta, fdV, fdE]
      · rw [eqF h7] at hk; cases hk
def okRf (n : Node) (k : Int) : Bool := bif k == 8 then okRs n else bif k == 6 then okRp n true else bif k == 7 then okRp n false else false
def rfV (n : Node) (k : Int) : Node := bif k == 8 then rsetV n else rprV n (k == 6)
def rfB (n : Node) (k : Int) : Bool := bif k == 8 then rsetB n else rprB n (k == 6)
noncomputable def rfield_W : FnW E := fn22 (E := E) .api_Node .int .api_Node .bool okRf rfV rfB
def rfield_id : FuncId := 11
noncomputable def rfield_O : Oracle E := orac [(36, q18pairs_W), (37, q18set_W)] [] [] []
noncomputable def rfield_H : Hint E := Hint.mk [] [] [] [] []
noncomputable def rfield_t (_G : Nat → ASt E → Option (List (TV E))) (x0 : Node) (x1 : Int) : Option (List (TV E)) :=
  bif (decide (x1 < (5 : Int))) then none else (bif (x1 == (5 : Int)) then none else (bif (bif (x1 == (6 : Int)) then true else (x1 == (7 : Int))) then (bif (okRp (⟨x0.kind, x0.text, x0.keys, x0.kids⟩ : Node) (x1 == (6 : Int))) then some [⟨.api_Node, (⟨(rprV (⟨x0.kind, x0.text, x0.keys, x0.kids⟩ : Node) (x1 == (6 : Int))).kind, (rprV (⟨x0.kind, x0.text, x0.keys, x0.kids⟩ : Node) (x1 == (6 : Int))).text, (rprV (⟨x0.kind, x0.text, x0.keys, x0.kids⟩ : Node) (x1 == (6 : Int))).keys, (rprV (⟨x0.kind, x0.text, x0.keys, x0.kids⟩ : Node) (x1 == (6 : Int))).kids⟩ : Node)⟩, ⟨.bool, (rprB (⟨x0.kind, x0.text, x0.keys, x0.kids⟩ : Node) (x1 == (6 : Int)))⟩] else none) else (bif (x1 == (8 : Int)) then (bif (okRs (⟨x0.kind, x0.text, x0.keys, x0.kids⟩ : Node)) then some [⟨.api_Node, (⟨(rsetV (⟨x0.kind, x0.text, x0.keys, x0.kids⟩ : Node)).kind, (rsetV (⟨x0.kind, x0.text, x0.keys, x0.kids⟩ : Node)).text, (rsetV (⟨x0.kind, x0.text, x0.keys, x0.kids⟩ : Node)).keys, (rsetV (⟨x0.kind, x0.text, x0.keys, x0.kids⟩ : Node)).kids⟩ : Node)⟩, ⟨.bool, (rsetB (⟨x0.kind, x0.text, x0.keys, x0.kids⟩ : Node))⟩] else none) else (bif (x1 == (9 : Int)) then none else (bif (x1 == (10 : Int)) then none else (bif (x1 == (11 : Int)) then none else (bif (x1 == (12 : Int)) then none else none)))))))
theorem rfield_e (G : Nat → ASt E → Option (List (TV E))) (x0 : Node) (x1 : Int) : runE rfield_O rfield_H G Tryz.f11 [⟨.api_Node, x0⟩, ⟨.int, x1⟩] = rfield_t G x0 x1 := by kernel_rfl
theorem rfield_f : Tryz.prog.funcs[11]? = some Tryz.f11 := by kernel_rfl
theorem rfield_n : (Tryz.f11.name == "runtime.NumGoroutine") = false := by kernel_rfl
theorem rfield_b : Tryz.f11.body.isNone = false := by kernel_rfl
theorem rfield_ex : ∃ fn, Tryz.prog.funcs[11]? = some fn ∧ (fn.name == "runtime.NumGoroutine") = false ∧ fn.body.isNone = false := ⟨Tryz.f11, rfield_f, rfield_n, rfield_b⟩
theorem rfield_hO : OracleOk E rfield_O := orac_ok (.cons q18pairs_ok (.cons q18set_ok .nil)) .nil .nil .nil
theorem rfield_ok_of (h : ∀ (x0 : Node) (x1 : Int), okRf x0 x1 = true → rfield_t (Gr E Tryz.f11 [⟨.api_Node, rfV x0 x1⟩, ⟨.bool, rfB x0 x1⟩]) x0 x1 = some [⟨.api_Node, rfV x0 x1⟩, ⟨.bool, rfB x0 x1⟩]) : FnOk E rfield_id rfield_W := fn22_ok rfield_hO mix rfield_f rfield_n rfield_b (fun x0 x1 hk => (rfield_e _ x0 x1).trans (h x0 x1 hk))
theorem rfield_ok : FnOk E rfield_id rfield_W := rfield_ok_of fun n k hk => by
  unfold okRf at hk
  by_cases h8 : k = 8
  · subst h8
    have hk : okRs n = true := hk
    simp [rfield_t, hk, node_eta, rfV, rfB]
  · rw [eqF h8, cond_false] at hk
    by_cases h6 : k = 6
    · subst h6
      have hk : okRp n true = true := hk
      simp [rfield_t, hk, node_eta, rfV, rfB]
    · rw [eqF h6, cond_false] at hk
      by_cases h7 : k = 7
      · subst h7
        have hk : okRp n false = true := hk
        simp [rfield_t, hk, node_eta, rfV, rfB]
      · rw [eqF h7] at hk; cases hk
/-- What a field's question comes to. -/
structure Ask (n : Node) (k : Int) : Prop where
  f : okFd n k = true
  r : okRf n k = true
  v : fdV n k = rfV n k
  e : fdE n k = (bif rfB n k then 0 else 10)
  s : okS 12 (rfV n k) (rfV n k) = true
  again : rfB n k = true → okFd (rfV n k) k = true ∧ fdV (rfV n k) k = rfV n k ∧ fdE (rfV n k) k = 0
theorem okS_wg {a : Node} (h : wg 10000 12 a = true) : okS 12 a a = true := by simp only [okS, wg_dp (by decide) h, Bool.and_self]
def okAs (n : Node) (k : Int) : Bool := (k == 6 || (k == 7 || k == 8)) && okNd 12 n && decide (n.kind = 3 → n.keys.Nodup)
structure Gd (n : Node) : Prop where
  keys : n.keys.length ≤ 200
  kids : n.kids.length ≤ 200
  len : n.kind = 3 → n.keys.length = n.kids.length
  kl : ∀ k ∈ n.keys, k.length ≤ 200
  gn : Gn n
theorem gd_of {n : Node} (h : okNd 12 n = true) (hd : n.kind = 3 → n.keys.Nodup) : Gd n := by
  simp only [okNd, Bool.and_eq_true] at h
  have := wf_iff.1 h.1
  exact ⟨this.1, this.2.1, this.2.2.1, this.2.2.2.2.1, fun e => ⟨this.2.2.1 e, hd e⟩, fun y hy => (wf_iff.1 (this.2.2.2.2.2 y hy)).2.2.2.1⟩
theorem Gd.prs {n : Node} (h : Gd n) (v : Bool) : okPrs n v = true := by
  simp only [okPrs, Bool.and_eq_true, decide_eq_true_eq, List.all_eq_true]
  exact ⟨⟨⟨⟨h.len, by have := h.keys; omega⟩, by have := h.kids; omega⟩, fun s hs => by have := txsL_txt h.gn.2 s hs; omega⟩, fun k hk => by have := h.kl k hk; omega⟩
theorem Gd.rp {n : Node} (h : Gd n) (v : Bool) : okRp n v = true := by
  simp only [okRp, Bool.and_eq_true, decide_eq_true_eq, List.all_eq_true]
  exact ⟨⟨⟨h.len, by have := h.keys; omega⟩, by have := h.kids; omega⟩, fun y hy => by have := h.gn.2 y hy; omega⟩
theorem Gd.set {n : Node} (h : Gd n) : okSet n = true := by
  simp only [okSet, Bool.and_eq_true, decide_eq_true_eq, List.all_eq_true]
  refine ⟨⟨by have := h.keys; omega, by have := h.kids; omega⟩, fun s hs => ?_⟩
  unfold setL at hs
  cases hm : memB n 3 with
  | true => rw [hm] at hs; have := h.kl s hs; omega
  | false => rw [hm] at hs; have := txsL_txt h.gn.2 s hs; omega
theorem Gd.rs {n : Node} (h : Gd n) : okRs n = true := by
  simp only [okRs, Bool.and_eq_true, decide_eq_true_eq]
  exact ⟨by have := h.keys; omega, by have := h.kids; omega⟩
theorem name_len {f : UInt8 → Bool → Bool} {s : List UInt8} (h : nameV f s = true) : s.length ≤ 24 := by
  unfold nameV at h
  by_cases a : (24 : Int) < (s.length : Int)
  · rw [dT a] at h
    cases hq : decide ((s.length : Int) < 1) <;> rw [hq] at h <;> cases h
  · omega
theorem key_len {s : List UInt8} {v : Bool} (h : keyB s v = true) : s.length ≤ 24 := by
  unfold keyB at h
  cases v <;> exact name_len h
theorem Sf.gd {ψ : List UInt8 → Prop} {φ : Node → Prop} {a : Node} (h : Sf ψ φ a) (hψ : ∀ k, ψ k → k.length ≤ 200) (hφ : ∀ y, φ y → y.text.length ≤ 200) : Gd a :=
  ⟨by have := h.le; omega, by have := h.le; have := h.len; omega, fun _ => h.len, fun k hk => hψ k (h.key k hk), fun _ => ⟨h.len, ss_nodup h.ss⟩, fun y hy => hφ y (h.kid y hy)⟩
theorem zn_wg12 : wg 10000 12 zn = true := zn_wg 11
theorem oV_no {q : Option Node} (h : oB q = false) : oV q = zn := by
  cases q with
  | none => rfl
  | some o =>
    have h : doneB o true = false := h
    show doneV o true = zn
    unfold doneV; rw [h]; rfl
theorem ask_prs {n : Node} (h : Gd n) (v : Bool) : prsV n v = rprV n v ∧ prsE n v = (bif rprB n v then 0 else 10) ∧ wg 10000 12 (rprV n v) = true ∧ (rprB n v = true → okPrs (rprV n v) v = true ∧ prsV (rprV n v) v = rprV n v ∧ prsE (rprV n v) v = 0) := by
  obtain ⟨⟨h1, h2⟩, h3⟩ := pairs_eq h.gn v
  refine ⟨h1, h2, ?_, fun hb => ?_⟩
  · cases hb : rprB n v with
    | true => exact (h3 hb).wg_ isTx_wk
    | false =>
      rw [show rprV n v = zn from oV_no hb]
      exact zn_wg12
  · have sf := h3 hb
    have gd := sf.gd (fun k hk => by have := key_len hk; omega) (fun y hy => hy.2)
    obtain ⟨⟨q1, q2⟩, _⟩ := pairs_eq gd.gn v
    obtain ⟨q3, q4⟩ := pairs_self sf
    exact ⟨gd.prs v, q1.trans q3, by rw [q2, q4]; rfl⟩
theorem ask_set {n : Node} (h : Gd n) : setVn n = rsetV n ∧ setEn n = (bif rsetB n then 0 else 10) ∧ wg 10000 12 (rsetV n) = true ∧ (rsetB n = true → okSet (rsetV n) = true ∧ setVn (rsetV n) = rsetV n ∧ setEn (rsetV n) = 0) := by
  obtain ⟨⟨h1, h2⟩, h3⟩ := set_eq h.gn
  refine ⟨h1, h2, ?_, fun hb => ?_⟩
  · cases hb : rsetB n with
    | true => exact (h3 hb).wg_ isZn_wk
    | false =>
      have : rsetV n = zn := by
        have hb : doneB (rsP n).1 (rsP n).2 = false := hb
        show doneV (rsP n).1 (rsP n).2 = zn
        unfold doneV; rw [hb]; rfl
      rw [this]
      exact zn_wg12
  · have sf := h3 hb
    have gd := sf.gd (fun k hk => by have := name_len hk; omega) (fun y hy => by rw [show y = zn from hy]; exact Nat.zero_le _)
    obtain ⟨⟨q1, q2⟩, _⟩ := set_eq gd.gn
    obtain ⟨q3, q4⟩ := set_self sf
    exact ⟨gd.set, q1.trans q3, by rw [q2, q4]; rfl⟩
theorem ask_of {n : Node} {k : Int} (hk : okAs n k = true) : Ask n k := by
  simp only [okAs, Bool.and_eq_true, Bool.or_eq_true, beq_iff_eq, decide_eq_true_eq] at hk
  obtain ⟨⟨hk, h1⟩, h2⟩ := hk
  have g := gd_of h1 h2
  rcases hk with rfl | rfl | rfl
  · obtain ⟨a1, a2, a3, a4⟩ := ask_prs g true
    exact ⟨g.prs true, g.rp true, a1, a2, okS_wg a3, a4⟩
  · obtain ⟨a1, a2, a3, a4⟩ := ask_prs g false
    exact ⟨g.prs false, g.rp false, a1, a2, okS_wg a3, a4⟩
  · obtain ⟨a1, a2, a3, a4⟩ := ask_set g
    exact ⟨g.set, g.rs, a1, a2, okS_wg a3, a4⟩
noncomputable def lasked_W : FnW E := fn2 (E := E) .api_Node .int .bool okAs (fun _ _ => true)
def lasked_id : FuncId := 6
noncomputable def lasked_O : Oracle E := orac [(10, lfield_W), (12, rnsame_W 12), (11, rfield_W)] [] [] []
noncomputable def lasked_H : Hint E := Hint.mk [] [] [] [] []
noncomputable def lasked_t (_G : Nat → ASt E → Option (List (TV E))) (x0 : Node) (x1 : Int) : Option (List (TV E)) :=
  bif (okFd (⟨x0.kind, x0.text, x0.keys, x0.kids⟩ : Node) x1) then (bif (okRf (⟨x0.kind, x0.text, x0.keys, x0.kids⟩ : Node) x1) then (bif ((okS 12) (⟨(fdV (⟨x0.kind, x0.text, x0.keys, x0.kids⟩ : Node) x1).kind, (fdV (⟨x0.kind, x0.text, x0.keys, x0.kids⟩ : Node) x1).text, (fdV (⟨x0.kind, x0.text, x0.keys, x0.kids⟩ : Node) x1).keys, (fdV (⟨x0.kind, x0.text, x0.keys, x0.kids⟩ : Node) x1).kids⟩ : Node) (⟨(rfV (⟨x0.kind, x0.text, x0.keys, x0.kids⟩ : Node) x1).kind, (rfV (⟨x0.kind, x0.text, x0.keys, x0.kids⟩ : Node) x1).text, (rfV (⟨x0.kind, x0.text, x0.keys, x0.kids⟩ : Node) x1).keys, (rfV (⟨x0.kind, x0.text, x0.keys, x0.kids⟩ : Node) x1).kids⟩ : Node)) then (bif (bif (bif (!((same 12) (⟨(fdV (⟨x0.kind, x0.text, x0.keys, x0.kids⟩ : Node) x1).kind, (fdV (⟨x0.kind, x0.text, x0.keys, x0.kids⟩ : Node) x1).text, (fdV (⟨x0.kind, x0.text, x0.keys, x0.kids⟩ : Node) x1).keys, (fdV (⟨x0.kind, x0.text, x0.keys, x0.kids⟩ : Node) x1).kids⟩ : Node) (⟨(rfV (⟨x0.kind, x0.text, x0.keys, x0.kids⟩ : Node) x1).kind, (rfV (⟨x0.kind, x0.text, x0.keys, x0.kids⟩ : Node) x1).text, (rfV (⟨x0.kind, x0.text, x0.keys, x0.kids⟩ : Node) x1).keys, (rfV (⟨x0.kind, x0.text, x0.keys, x0.kids⟩ : Node) x1).kids⟩ : Node))) then true else (!(((fdE (⟨x0.kind, x0.text, x0.keys, x0.kids⟩ : Node) x1) == (0 : Int)) == (rfB (⟨x0.kind, x0.text, x0.keys, x0.kids⟩ : Node) x1)))) then true else (bif (!(rfB (⟨x0.kind, x0.text, x0.keys, x0.kids⟩ : Node) x1)) then ((fdE (⟨x0.kind, x0.text, x0.keys, x0.kids⟩ : Node) x1) != (10 : Int)) else false)) then some [⟨.bool, false⟩] else (bif (!(rfB (⟨x0.kind, x0.text, x0.keys, x0.kids⟩ : Node) x1)) then some [⟨.bool, true⟩] else (bif (okFd (⟨(fdV (⟨x0.kind, x0.text, x0.keys, x0.kids⟩ : Node) x1).kind, (fdV (⟨x0.kind, x0.text, x0.keys, x0.kids⟩ : Node) x1).text, (fdV (⟨x0.kind, x0.text, x0.keys, x0.kids⟩ : Node) x1).keys, (fdV (⟨x0.kind, x0.text, x0.keys, x0.kids⟩ : Node) x1).kids⟩ : Node) x1) then (bif (((okS 12) (⟨(fdV (⟨x0.kind, x0.text, x0.keys, x0.kids⟩ : Node) x1).kind, (fdV (⟨x0.kind, x0.text, x0.keys, x0.kids⟩ : Node) x1).text, (fdV (⟨x0.kind, x0.text, x0.keys, x0.kids⟩ : Node) x1).keys, (fdV (⟨x0.kind, x0.text, x0.keys, x0.kids⟩ : Node) x1).kids⟩ : Node) (⟨(fdV (⟨(fdV (⟨x0.kind, x0.text, x0.keys, x0.kids⟩ : Node) x1).kind, (fdV (⟨x0.kind, x0.text, x0.keys, x0.kids⟩ : Node) x1).text, (fdV (⟨x0.kind, x0.text, x0.keys, x0.kids⟩ : Node) x1).keys, (fdV (⟨x0.kind, x0.text, x0.keys, x0.kids⟩ : Node) x1).kids⟩ : Node) x1).kind, (fdV (⟨(fdV (⟨x0.kind, x0.text, x0.keys, x0.kids⟩ : Node) x1).kind, (fdV (⟨x0.kind, x0.text, x0.keys, x0.kids⟩ : Node) x1).text, (fdV (⟨x0.kind, x0.text, x0.keys, x0.kids⟩ : Node) x1).keys, (fdV (⟨x0.kind, x0.text, x0.keys, x0.kids⟩ : Node) x1).kids⟩ : Node) x1).text, (fdV (⟨(fdV (⟨x0.kind, x0.text, x0.keys, x0.kids⟩ : Node) x1).kind, (fdV (⟨x0.kind, x0.text, x0.keys, x0.kids⟩ : Node) x1).text, (fdV (⟨x0.kind, x0.text, x0.keys, x0.kids⟩ : Node) x1).keys, (fdV (⟨x0.kind, x0.text, x0.keys, x0.kids⟩ : Node) x1).kids⟩ : Node) x1).keys, (fdV (⟨(fdV (⟨x0.kind, x0.text, x0.keys, x0.kids⟩ : Node) x1).kind, (fdV (⟨x0.kind, x0.text, x0.keys, x0.kids⟩ : Node) x1).text, (fdV (⟨x0.kind, x0.text, x0.keys, x0.kids⟩ : Node) x1).keys, (fdV (⟨x0.kind, x0.text, x0.keys, x0.kids⟩ : Node) x1).kids⟩ : Node) x1).kids⟩ : Node)) || !((fdE (⟨(fdV (⟨x0.kind, x0.text, x0.keys, x0.kids⟩ : Node) x1).kind, (fdV (⟨x0.kind, x0.text, x0.keys, x0.kids⟩ : Node) x1).text, (fdV (⟨x0.kind, x0.text, x0.keys, x0.kids⟩ : Node) x1).keys, (fdV (⟨x0.kind, x0.text, x0.keys, x0.kids⟩ : Node) x1).kids⟩ : Node) x1) == (0 : Int))) then some [⟨.bool, (bif ((fdE (⟨(fdV (⟨x0.kind, x0.text, x0.keys, x0.kids⟩ : Node) x1).kind, (fdV (⟨x0.kind, x0.text, x0.keys, x0.kids⟩ : Node) x1).text, (fdV (⟨x0.kind, x0.text, x0.keys, x0.kids⟩ : Node) x1).keys, (fdV (⟨x0.kind, x0.text, x0.keys, x0.kids⟩ : Node) x1).kids⟩ : Node) x1) == (0 : Int)) then ((same 12) (⟨(fdV (⟨x0.kind, x0.text, x0.keys, x0.kids⟩ : Node) x1).kind, (fdV (⟨x0.kind, x0.text, x0.keys, x0.kids⟩ : Node) x1).text, (fdV (⟨x0.kind, x0.text, x0.keys, x0.kids⟩ : Node) x1).keys, (fdV (⟨x0.kind, x0.text, x0.keys, x0.kids⟩ : Node) x1).kids⟩ : Node) (⟨(fdV (⟨(fdV (⟨x0.kind, x0.text, x0.keys, x0.kids⟩ : Node) x1).kind, (fdV (⟨x0.kind, x0.text, x0.keys, x0.kids⟩ : Node) x1).text, (fdV (⟨x0.kind, x0.text, x0.keys, x0.kids⟩ : Node) x1).keys, (fdV (⟨x0.kind, x0.text, x0.keys, x0.kids⟩ : Node) x1).kids⟩ : Node) x1).kind, (fdV (⟨(fdV (⟨x0.kind, x0.text, x0.keys, x0.kids⟩ : Node) x1).kind, (fdV (⟨x0.kind, x0.text, x0.keys, x0.kids⟩ : Node) x1).text, (fdV (⟨x0.kind, x0.text, x0.keys, x0.kids⟩ : Node) x1).keys, (fdV (⟨x0.kind, x0.text, x0.keys, x0.kids⟩ : Node) x1).kids⟩ : Node) x1).text, (fdV (⟨(fdV (⟨x0.kind, x0.text, x0.keys, x0.kids⟩ : Node) x1).kind, (fdV (⟨x0.kind, x0.text, x0.keys, x0.kids⟩ : Node) x1).text, (fdV (⟨x0.kind, x0.text, x0.keys, x0.kids⟩ : Node) x1).keys, (fdV (⟨x0.kind, x0.text, x0.keys, x0.kids⟩ : Node) x1).kids⟩ : Node) x1).keys, (fdV (⟨(fdV (⟨x0.kind, x0.text, x0.keys, x0.kids⟩ : Node) x1).kind, (fdV (⟨x0.kind, x0.text, x0.keys, x0.kids⟩ : Node) x1).text, (fdV (⟨x0.kind, x0.text, x0.keys, x0.kids⟩ : Node) x1).keys, (fdV (⟨x0.kind, x0.text, x0.keys, x0.kids⟩ : Node) x1).kids⟩ : Node) x1).kids⟩ : Node)) else false)⟩] else none) else none))) else none) else none) else none
theorem lasked_e (G : Nat → ASt E → Option (List (TV E))) (x0 : Node) (x1 : Int) : runE lasked_O lasked_H G Tryz.f6 [⟨.api_Node, x0⟩, ⟨.int, x1⟩] = lasked_t G x0 x1 := by kernel_rfl
theorem lasked_f : Tryz.prog.funcs[6]? = some Tryz.f6 := by kernel_rfl
theorem lasked_n : (Tryz.f6.name == "runtime.NumGoroutine") = false := by kernel_rfl
theorem lasked_b : Tryz.f6.body.isNone = false := by kernel_rfl
theorem lasked_ex : ∃ fn, Tryz.prog.funcs[6]? = some fn ∧ (fn.name == "runtime.NumGoroutine") = false ∧ fn.body.isNone = false := ⟨Tryz.f6, lasked_f, lasked_n, lasked_b⟩
theorem lasked_hO : OracleOk E lasked_O := orac_ok (.cons lfield_ok (.cons (rnsame_ok 12) (.cons rfield_ok .nil))) .nil .nil .nil
theorem lasked_ok_of (h : ∀ (x0 : Node) (x1 : Int), okAs x0 x1 = true → lasked_t (Gr E Tryz.f6 [⟨.bool, (fun _ _ => true) x0 x1⟩]) x0 x1 = some [⟨.bool, (fun _ _ => true) x0 x1⟩]) : FnOk E lasked_id lasked_W := fn2_ok lasked_hO mix lasked_f lasked_n lasked_b (fun x0 x1 hk => (lasked_e _ x0 x1).trans (h x0 x1 hk))
theorem lasked_ok : FnOk E lasked_id lasked_W := lasked_ok_of fun n k hk => by
  have q := ask_of hk
  have q1 := q.s
  have q2 : same 12 (rfV n k) (rfV n k) = true := same_refl 12 _ (by have := q.s; simp only [okS, Bool.and_eq_true] at this; exact this.1)
  simp only [lasked_t, node_eta, q.f, q.r, q.v, q.e, q1, q2, cond_true, Bool.not_true]
  cases hb : rfB n k with
  | false => rfl
  | true =>
    obtain ⟨p1, p2, p3⟩ := q.again hb
    simp only [cond_true, cond_false, Bool.not_true, node_eta, p1, p2, p3, q1, q2, Bool.true_or]
    rfl
noncomputable def awake_W : FnW E := fn0 (E := E) .bool true true
def awake_id : FuncId := 5
noncomputable def awake_O : Oracle E := orac [(9, nports_W)] [] [] []
noncomputable def awake_H : Hint E := Hint.mk [] [] [] [] []
noncomputable def awake_t (_G : Nat → ASt E → Option (List (TV E)))  : Option (List (TV E)) :=
  bif (okPo (⟨(2 : Int), ([] : List UInt8), ([] : List (List UInt8)), ([(⟨(1 : Int), ([56, 48, 56, 48, 58, 56, 48] : List UInt8), ([] : List (List UInt8)), ([] : List Node)⟩ : Node)] : List Node)⟩ : Node)) then (bif (okPo (⟨(1 : Int), ([56, 48, 56, 48, 58, 56, 48] : List UInt8), ([] : List (List UInt8)), ([] : List Node)⟩ : Node)) then (bif ((decide ((0 : Int) ≤ (0 : Int)) && decide ((0 : Int) < (((poV (⟨(2 : Int), ([] : List UInt8), ([] : List (List UInt8)), ([(⟨(1 : Int), ([56, 48, 56, 48, 58, 56, 48] : List UInt8), ([] : List (List UInt8)), ([] : List Node)⟩ : Node)] : List Node)⟩ : Node)).keys).length : Int))) || !(bif ((poE (⟨(2 : Int), ([] : List UInt8), ([] : List (List UInt8)), ([(⟨(1 : Int), ([56, 48, 56, 48, 58, 56, 48] : List UInt8), ([] : List (List UInt8)), ([] : List Node)⟩ : Node)] : List Node)⟩ : Node)) == (0 : Int)) then ((((poV (⟨(2 : Int), ([] : List UInt8), ([] : List (List UInt8)), ([(⟨(1 : Int), ([56, 48, 56, 48, 58, 56, 48] : List UInt8), ([] : List (List UInt8)), ([] : List Node)⟩ : Node)] : List Node)⟩ : Node)).keys).length : Int) == (1 : Int)) else false)) then some [⟨.bool, (bif (bif (bif ((poE (⟨(2 : Int), ([] : List UInt8), ([] : List (List UInt8)), ([(⟨(1 : Int), ([56, 48, 56, 48, 58, 56, 48] : List UInt8), ([] : List (List UInt8)), ([] : List Node)⟩ : Node)] : List Node)⟩ : Node)) == (0 : Int)) then ((((poV (⟨(2 : Int), ([] : List UInt8), ([] : List (List UInt8)), ([(⟨(1 : Int), ([56, 48, 56, 48, 58, 56, 48] : List UInt8), ([] : List (List UInt8)), ([] : List Node)⟩ : Node)] : List Node)⟩ : Node)).keys).length : Int) == (1 : Int)) else false) then ((List.getD ((poV (⟨(2 : Int), ([] : List UInt8), ([] : List (List UInt8)), ([(⟨(1 : Int), ([56, 48, 56, 48, 58, 56, 48] : List UInt8), ([] : List (List UInt8)), ([] : List Node)⟩ : Node)] : List Node)⟩ : Node)).keys) (Int.toNat (0 : Int)) (dflt .str)) == ([56, 48, 56, 48, 58, 56, 48] : List UInt8)) else false) then ((poE (⟨(1 : Int), ([56, 48, 56, 48, 58, 56, 48] : List UInt8), ([] : List (List UInt8)), ([] : List Node)⟩ : Node)) == (10 : Int)) else false)⟩] else none) else none) else none
theorem awake_e (G : Nat → ASt E → Option (List (TV E)))  : runE awake_O awake_H G Tryz.f5 [] = awake_t G  := by kernel_rfl
theorem awake_f : Tryz.prog.funcs[5]? = some Tryz.f5 := by kernel_rfl
theorem awake_n : (Tryz.f5.name == "runtime.NumGoroutine") = false := by kernel_rfl
theorem awake_b : Tryz.f5.body.isNone = false := by kernel_rfl
theorem awake_ex : ∃ fn, Tryz.prog.funcs[5]? = some fn ∧ (fn.name == "runtime.NumGoroutine") = false ∧ fn.body.isNone = false := ⟨Tryz.f5, awake_f, awake_n, awake_b⟩
theorem awake_hO : OracleOk E awake_O := orac_ok (.cons nports_ok .nil) .nil .nil .nil
theorem awake_ok_of (h : awake_t (Gr E Tryz.f5 [⟨.bool, true ⟩])  = some [⟨.bool, true ⟩]) : FnOk E awake_id awake_W := fn0_ok awake_hO mix awake_f awake_n awake_b (fun _ => (awake_e _).trans h)
theorem awake_ok : FnOk E awake_id awake_W := awake_ok_of <| by
  have e : awake_t (Gr E Tryz.f5 [⟨.bool, true⟩]) = some [⟨.bool, true⟩] := by kernel_rfl
  exact e
noncomputable def law_W : FnW E := fn1 (E := E) .api_Node .bool (fun _ => true) (fun _ => true)
def law_id : FuncId := 3
noncomputable def law_O : Oracle E := orac [(6, lasked_W), (5, awake_W), (4, small_W)] [] [] []
noncomputable def law_H : Hint E := Hint.mk [] [] [] [] []
noncomputable def law_t (_G : Nat → ASt E → Option (List (TV E))) (x0 : Node) : Option (List (TV E)) :=
  bif (okSm (⟨x0.kind, x0.text, x0.keys, x0.kids⟩ : Node) (100 : Int)) then (bif (!(smallV (⟨x0.kind, x0.text, x0.keys, x0.kids⟩ : Node) (100 : Int))) then some [⟨.bool, true⟩] else (bif (okAs (⟨x0.kind, x0.text, x0.keys, x0.kids⟩ : Node) (6 : Int)) then (bif ((okAs (⟨x0.kind, x0.text, x0.keys, x0.kids⟩ : Node) (7 : Int)) || !((fun _ _ => true) (⟨x0.kind, x0.text, x0.keys, x0.kids⟩ : Node) (6 : Int))) then (bif ((okAs (⟨x0.kind, x0.text, x0.keys, x0.kids⟩ : Node) (8 : Int)) || !(bif ((fun _ _ => true) (⟨x0.kind, x0.text, x0.keys, x0.kids⟩ : Node) (6 : Int)) then ((fun _ _ => true) (⟨x0.kind, x0.text, x0.keys, x0.kids⟩ : Node) (7 : Int)) else false)) then some [⟨.bool, (bif (bif (bif ((fun _ _ => true) (⟨x0.kind, x0.text, x0.keys, x0.kids⟩ : Node) (6 : Int)) then ((fun _ _ => true) (⟨x0.kind, x0.text, x0.keys, x0.kids⟩ : Node) (7 : Int)) else false) then ((fun _ _ => true) (⟨x0.kind, x0.text, x0.keys, x0.kids⟩ : Node) (8 : Int)) else false) then true else false)⟩] else none) else none) else none)) else none
theorem law_e (G : Nat → ASt E → Option (List (TV E))) (x0 : Node) : runE law_O law_H G Tryz.f3 [⟨.api_Node, x0⟩] = law_t G x0 := by kernel_rfl
theorem law_f : Tryz.prog.funcs[3]? = some Tryz.f3 := by kernel_rfl
theorem law_n : (Tryz.f3.name == "runtime.NumGoroutine") = false := by kernel_rfl
theorem law_b : Tryz.f3.body.isNone = false := by kernel_rfl
theorem law_ex : ∃ fn, Tryz.prog.funcs[3]? = some fn ∧ (fn.name == "runtime.NumGoroutine") = false ∧ fn.body.isNone = false := ⟨Tryz.f3, law_f, law_n, law_b⟩
theorem law_hO : OracleOk E law_O := orac_ok (.cons lasked_ok (.cons awake_ok (.cons small_ok .nil))) .nil .nil .nil
theorem law_ok_of (h : ∀ (x0 : Node), law_t (Gr E Tryz.f3 [⟨.bool, (fun _ => true) x0⟩]) x0 = some [⟨.bool, (fun _ => true) x0⟩]) : FnOk E law_id law_W := fn1_ok law_hO mix law_f law_n law_b (fun x0 _ => (law_e _ x0).trans (h x0))
theorem nd_le : ∀ (m l : List (List UInt8)), m.Nodup → (∀ x ∈ m, x ∈ l) → m.length ≤ l.length
  | [], _, _, _ => Nat.zero_le _
  | a :: t, l, hn, hs => by
    have hn' := List.nodup_cons.1 hn
    have ha := hs a List.mem_cons_self
    have := nd_le t (l.erase a) hn'.2 fun x hx => (List.mem_erase_of_ne (fun e => by subst e; exact hn'.1 hx)).2 (hs x (List.mem_cons_of_mem _ hx))
    rw [List.length_erase_of_mem ha] at this
    have h1 := List.length_pos_of_mem ha
    simp only [List.length_cons]; omega
theorem nd_of : ∀ (l m : List (List UInt8)), m.Nodup → (∀ x, x ∈ m ↔ x ∈ l) → m.length = l.length → l.Nodup
  | [], _, _, _, _ => List.nodup_nil
  | a :: t, m, hn, hm, hl => by
    have hat : a ∉ t := fun ha => by
      have := nd_le m t hn fun x hx => by
        rcases List.mem_cons.1 ((hm x).1 hx) with rfl | h
        · exact ha
        · exact h
      simp only [List.length_cons] at hl; omega
    have ham : a ∈ m := (hm a).2 List.mem_cons_self
    refine List.nodup_cons.2 ⟨hat, nd_of t (m.erase a) (hn.erase a) (fun x => ?_) (by rw [List.length_erase_of_mem ham, hl]; rfl)⟩
    rw [hn.mem_erase_iff, hm x, List.mem_cons]
    constructor
    · rintro ⟨h1, h2⟩
      exact h2.resolve_left h1
    · intro h
      exact ⟨(fun e => by subst e; exact hat h), .inr h⟩
theorem nodup_of_sort {l : List (List UInt8)} (h : (Pl.sortD l).length = l.length) : l.Nodup :=
  nd_of l (Pl.sortD l) (ss_nodup (Pl.sortD_spec l).1) (fun _ => Pl.sortD_mem) h
theorem small_nodup {x : Node} {m : Int} (h : smallV x m = true) : x.kind = 3 → x.keys.Nodup := by
  intro h3
  unfold smallV at h
  by_cases h0 : 0 ≤ leftV 13 x 1 m
  · unfold leftV at h0
    cases h1 : badA x 1 (m - 1) with
    | true => rw [h1, cond_true] at h0; omega
    | false =>
      cases h2 : badB x with
      | true => rw [h1, h2, cond_false, cond_true] at h0; omega
      | false =>
        cases hc : badC x (m - 1) with
        | true => rw [h1, h2, hc, cond_false, cond_false, cond_true] at h0; omega
        | false =>
          unfold badC at hc
          rw [eqT h3, cond_true] at hc
          by_cases e : ((Pl.sortD x.keys).length : Int) = (x.keys.length : Int)
          · exact nodup_of_sort (by omega)
          · rw [neT e] at hc
            cases hq : (bif (x.keys.length : Int) != (x.kids.length : Int) then true else decide (m - 1 < (x.kids.length : Int))) <;> rw [hq] at hc <;> cases hc
  · rw [dF h0] at h; cases h
theorem law_ok : FnOk E law_id law_W := law_ok_of fun n => by
  have e0 : okSm n 100 = true := rfl
  simp only [law_t, node_eta, e0, cond_true]
  cases hs : smallV n 100 with
  | false => rfl
  | true =>
    have hn : okNd 12 n = true := small_nd_ (by decide) hs
    have hd := small_nodup hs
    have q : ∀ k : Int, (k == 6 || (k == 7 || k == 8)) = true → okAs n k = true := fun k hk => by
      simp only [okAs, hk, hn, Bool.true_and, decide_eq_true_eq]; exact hd
    simp only [q 6 rfl, q 7 rfl, q 8 rfl, cond_true, cond_false, Bool.not_true, Bool.true_or]
end Go.Proofs.YtdpjmdgeeogmgaaGreatDoor.Rf