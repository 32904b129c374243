/- The program's forms of fields: sets. -/
import Derived.Test.YtpmknebhacaocaaGreatDoorN4
namespace Go.Proofs.YtpmknebhacaocaaGreatDoor.Rf
open Go Go.RowKit Go.Sort Go.Proofs.YtpmknebhacaocaaGreatDoor.Mir
/-! ### Package norm: the form that gathers a map; Set -/
def memB (n : Node) (k : Int) : Bool := bif n.kind == k then decide ((n.kids.length : Int) ≤ 32) else false
def badKid (y : Node) : Bool := bif y.kind != 0 then (bif y.kind != 3 then true else decide ((0 : Int) < (y.keys.length : Int))) else false
def putAll (v : List UInt8 → Node) : List (List UInt8) → Node → Node
  | [], o => o
  | s :: t, o => putAll v t (withP o s (v s))
def failB (o : Node) (bad : Bool) : Bool := bif bad then true else decide ((32 : Int) < (o.keys.length : Int))
def dnV (o : Node) (bad : Bool) : Node := bif failB o bad then zn else sortP 12 ⟨3, o.text, o.keys, o.kids⟩
def dnE (o : Node) (bad : Bool) : Int := bif failB o bad then 10 else 0
def setL (n : Node) : List (List UInt8) := bif memB n 3 then n.keys else txsL n
def set0 (n : Node) : Bool := bif memB n 3 then n.kids.any badKid else !(txsB n)
def setF (n : Node) : Bool := set0 n || (setL n).any fun s => !(ofV s1B s2B s)
def setO (n : Node) : Node := putAll (fun _ => zn) (setL n) zn
def okSet (n : Node) : Bool := decide (n.keys.length ≤ 1000000) && decide (n.kids.length ≤ 1000000) && (setL n).all (fun s => decide (s.length ≤ 1000000))
def setVn (n : Node) : Node := dnV (setO n) (setF n)
def setEn (n : Node) : Int := dnE (setO n) (setF n)
noncomputable def nset_W : FnW E := fn12 (E := E) .api_Node .api_Node .api_Errno okSet setVn setEn
def nset_id : FuncId := 29
noncomputable def nset_O : Oracle E := withI (orac [(69, nService_W), (54, ndsorted_W 12), (52, nwith_W), (66, ntexts_W)] [] [] []) [(14, Tryz.f14), (17, Tryz.f17), (18, Tryz.f18), (20, Tryz.f20), (21, Tryz.f21)]
noncomputable def nset_H : Hint E := Hint.mk [(0, [2, 4, 5, 6, 21, 22, 23]), (1, [2, 4, 46, 47, 48])] [] [(1, [(4, some 2, false, .str), (4, some 3, false, .api_Node)])] [] []
noncomputable def nset_C0 (v0 : List (List UInt8)) (v1 : Bool) (v2 : List Node) (v3 : Int) (v4 : Int) (v5 : Int) (v6 : List UInt8) (v7 : Int) (v8 : List UInt8) (v9 : Bool) : ASt E := ASt.mk 63 [(2, .ptr 0 0), (4, .ptr 1 0), (5, .d (.slice .str v0)), (6, .d (.bool v1)), (21, .d (.slice .api_Node v2)), (22, .d (.int .i64 v3)), (23, .d (.int .i64 v4))] [(0, .box [.d (.int .i64 v5), .d (.str v6), .d (.raw (.slice none 0 0)), .d (.raw (.slice none 0 0))]), (1, .box [.d (.int .i64 v7), .d (.str v8), .d (.raw (.slice none 0 0)), .d (.raw (.slice none 0 0)), .d (.bool v9)])] 2
noncomputable def nset_C1 (v0 : List (List UInt8)) (v1 : Int) (v2 : Int) (v3 : Int) (v4 : List UInt8) (v5 : Int) (v6 : List UInt8) (v7 : List (List UInt8)) (v8 : List Node) (v9 : Bool) : ASt E := ASt.mk 63 [(2, .ptr 0 0), (4, .ptr 1 0), (46, .d (.slice .str v0)), (47, .d (.int .i64 v1)), (48, .d (.int .i64 v2))] [(0, .box [.d (.int .i64 v3), .d (.str v4), .d (.raw (.slice none 0 0)), .d (.raw (.slice none 0 0))]), (1, .box [.d (.int .i64 v5), .d (.str v6), .d (.slice .str v7), .d (.slice .api_Node v8), .d (.bool v9)])] 2
noncomputable def nset_t (G : Nat → ASt E → Option (List (TV E))) (x0 : Node) : Option (List (TV E)) :=
  bif (okTx (⟨x0.kind, x0.text, x0.keys, x0.kids⟩ : Node)) then (bif (bif (x0.kind == (3 : Int)) then (decide ((x0.kids.length : Int) ≤ (32 : Int))) else false) then G 0 (nset_C0 x0.keys true x0.kids (x0.kids.length : Int) (0 : Int) (0 : Int) ([] : List UInt8) (0 : Int) ([] : List UInt8) false) else G 1 (nset_C1 (txsL (⟨x0.kind, x0.text, x0.keys, x0.kids⟩ : Node)) ((txsL (⟨x0.kind, x0.text, x0.keys, x0.kids⟩ : Node)).length : Int) (0 : Int) (0 : Int) ([] : List UInt8) (0 : Int) ([] : List UInt8) ([] : List (List UInt8)) ([] : List Node) (bif false then true else (!(txsB (⟨x0.kind, x0.text, x0.keys, x0.kids⟩ : Node)))))) else none
theorem nset_e (G : Nat → ASt E → Option (List (TV E))) (x0 : Node) : runE nset_O nset_H G Tryz.f29 [⟨.api_Node, x0⟩] = nset_t G x0 := by kernel_rfl
noncomputable def nset_t0 (G : Nat → ASt E → Option (List (TV E))) (v0 : List (List UInt8)) (v1 : Bool) (v2 : List Node) (v3 : Int) (v4 : Int) (v5 : Int) (v6 : List UInt8) (v7 : Int) (v8 : List UInt8) (v9 : Bool) : Option (List (TV E)) :=
  bif (decide (v4 < v3)) then (bif (decide ((0 : Int) ≤ v4) && decide (v4 < (v2.length : Int))) then G 0 (nset_C0 v0 v1 v2 v3 (w64 (v4 + (1 : Int))) v5 v6 v7 v8 (bif v9 then true else (bif ((List.getD v2 (Int.toNat v4) (dflt .api_Node)).kind != (0 : Int)) then (bif ((List.getD v2 (Int.toNat v4) (dflt .api_Node)).kind != (3 : Int)) then true else (decide ((0 : Int) < (((List.getD v2 (Int.toNat v4) (dflt .api_Node)).keys).length : Int)))) else false))) else none) else G 1 (nset_C1 v0 (v0.length : Int) (0 : Int) v5 v6 v7 v8 ([] : List (List UInt8)) ([] : List Node) (bif v9 then true else (!v1)))
theorem nset_l0 (G : Nat → ASt E → Option (List (TV E))) (v0 : List (List UInt8)) (v1 : Bool) (v2 : List Node) (v3 : Int) (v4 : Int) (v5 : Int) (v6 : List UInt8) (v7 : Int) (v8 : List UInt8) (v9 : Bool) : runL nset_O nset_H G Tryz.f29 0 (nset_C0 v0 v1 v2 v3 v4 v5 v6 v7 v8 v9) = nset_t0 G v0 v1 v2 v3 v4 v5 v6 v7 v8 v9 := by kernel_rfl
noncomputable def nset_t1 (G : Nat → ASt E → Option (List (TV E))) (v0 : List (List UInt8)) (v1 : Int) (v2 : Int) (v3 : Int) (v4 : List UInt8) (v5 : Int) (v6 : List UInt8) (v7 : List (List UInt8)) (v8 : List Node) (v9 : Bool) : Option (List (TV E)) :=
  bif (decide (v2 < v1)) then (bif (decide ((0 : Int) ≤ v2) && decide (v2 < (v0.length : Int))) then (bif (okNm1 (List.getD v0 (Int.toNat v2) (dflt .str))) then (bif (okWp (⟨v5, v6, v7, v8⟩ : Node) (List.getD v0 (Int.toNat v2) (dflt .str)) (⟨(0 : Int), ([] : List UInt8), ([] : List (List UInt8)), ([] : List Node)⟩ : Node)) then G 1 (nset_C1 v0 v1 (w64 (v2 + (1 : Int))) v3 v4 ((withP (⟨v5, v6, v7, v8⟩ : Node) (List.getD v0 (Int.toNat v2) (dflt .str)) (⟨(0 : Int), ([] : List UInt8), ([] : List (List UInt8)), ([] : List Node)⟩ : Node)).kind) ((withP (⟨v5, v6, v7, v8⟩ : Node) (List.getD v0 (Int.toNat v2) (dflt .str)) (⟨(0 : Int), ([] : List UInt8), ([] : List (List UInt8)), ([] : List Node)⟩ : Node)).text) ((withP (⟨v5, v6, v7, v8⟩ : Node) (List.getD v0 (Int.toNat v2) (dflt .str)) (⟨(0 : Int), ([] : List UInt8), ([] : List (List UInt8)), ([] : List Node)⟩ : Node)).keys) ((withP (⟨v5, v6, v7, v8⟩ : Node) (List.getD v0 (Int.toNat v2) (dflt .str)) (⟨(0 : Int), ([] : List UInt8), ([] : List (List UInt8)), ([] : List Node)⟩ : Node)).kids) (bif v9 then true else (!((ofV s1B s2B) (List.getD v0 (Int.toNat v2) (dflt .str)))))) else none) else none) else none) else (bif (bif v9 then true else (decide ((32 : Int) < (v7.length : Int)))) then some [⟨.api_Node, (⟨(0 : Int), ([] : List UInt8), ([] : List (List UInt8)), ([] : List Node)⟩ : Node)⟩, ⟨.api_Errno, (10 : Int)⟩] else (bif ((wg 10000 12) (⟨(3 : Int), v6, v7, v8⟩ : Node)) then some [⟨.api_Node, (⟨((sortP 12) (⟨(3 : Int), v6, v7, v8⟩ : Node)).kind, ((sortP 12) (⟨(3 : Int), v6, v7, v8⟩ : Node)).text, ((sortP 12) (⟨(3 : Int), v6, v7, v8⟩ : Node)).keys, ((sortP 12) (⟨(3 : Int), v6, v7, v8⟩ : Node)).kids⟩ : Node)⟩, ⟨.api_Errno, (0 : Int)⟩] else none))
theorem nset_l1 (G : Nat → ASt E → Option (List (TV E))) (v0 : List (List UInt8)) (v1 : Int) (v2 : Int) (v3 : Int) (v4 : List UInt8) (v5 : Int) (v6 : List UInt8) (v7 : List (List UInt8)) (v8 : List Node) (v9 : Bool) : runL nset_O nset_H G Tryz.f29 1 (nset_C1 v0 v1 v2 v3 v4 v5 v6 v7 v8 v9) = nset_t1 G v0 v1 v2 v3 v4 v5 v6 v7 v8 v9 := by kernel_rfl
theorem nset_f : Tryz.prog.funcs[29]? = some Tryz.f29 := by kernel_rfl
theorem nset_n : (Tryz.f29.name == "runtime.NumGoroutine") = false := by kernel_rfl
theorem nset_b : Tryz.f29.body.isNone = false := by kernel_rfl
theorem nset_ex : ∃ fn, Tryz.prog.funcs[29]? = some fn ∧ (fn.name == "runtime.NumGoroutine") = false ∧ fn.body.isNone = false := ⟨Tryz.f29, nset_f, nset_n, nset_b⟩
theorem nset_hO : OracleOk E nset_O := withI_ok (orac_ok (.cons nService_ok (.cons (ndsorted_ok 12) (.cons nwith_ok (.cons ntexts_ok .nil)))) .nil .nil .nil) mix (.cons (f := 14) (fn := Tryz.f14) (by kernel_rfl) (by kernel_rfl) (by kernel_rfl) (.cons (f := 17) (fn := Tryz.f17) (by kernel_rfl) (by kernel_rfl) (by kernel_rfl) (.cons (f := 18) (fn := Tryz.f18) (by kernel_rfl) (by kernel_rfl) (by kernel_rfl) (.cons (f := 20) (fn := Tryz.f20) (by kernel_rfl) (by kernel_rfl) (by kernel_rfl) (.cons (f := 21) (fn := Tryz.f21) (by kernel_rfl) (by kernel_rfl) (by kernel_rfl) .nil)))))
theorem nset_s0 {res : List (TV E)} {v0 : List (List UInt8)} {v1 : Bool} {v2 : List Node} {v3 : Int} {v4 : Int} {v5 : Int} {v6 : List UInt8} {v7 : Int} {v8 : List UInt8} {v9 : Bool} (h : nset_t0 (Gr E Tryz.f29 res) v0 v1 v2 v3 v4 v5 v6 v7 v8 v9 = some res) : Ev E Tryz.f29 res 0 (nset_C0 v0 v1 v2 v3 v4 v5 v6 v7 v8 v9) := Ev.step nset_hO mix ((nset_l0 _ v0 v1 v2 v3 v4 v5 v6 v7 v8 v9).trans h)
theorem nset_s1 {res : List (TV E)} {v0 : List (List UInt8)} {v1 : Int} {v2 : Int} {v3 : Int} {v4 : List UInt8} {v5 : Int} {v6 : List UInt8} {v7 : List (List UInt8)} {v8 : List Node} {v9 : Bool} (h : nset_t1 (Gr E Tryz.f29 res) v0 v1 v2 v3 v4 v5 v6 v7 v8 v9 = some res) : Ev E Tryz.f29 res 1 (nset_C1 v0 v1 v2 v3 v4 v5 v6 v7 v8 v9) := Ev.step nset_hO mix ((nset_l1 _ v0 v1 v2 v3 v4 v5 v6 v7 v8 v9).trans h)
theorem nset_ok_of (h : ∀ (x0 : Node), okSet x0 = true → nset_t (Gr E Tryz.f29 [⟨.api_Node, setVn x0⟩, ⟨.api_Errno, setEn x0⟩]) x0 = some [⟨.api_Node, setVn x0⟩, ⟨.api_Errno, setEn x0⟩]) : FnOk E nset_id nset_W := fn12_ok nset_hO mix nset_f nset_n nset_b (fun x0 hk => (nset_e _ x0).trans (h x0 hk))
/-- A map that is being gathered. -/
structure Gt (o : Node) (L : Nat) : Prop where
  kind : o.kind = 0 ∨ o.kind = 3
  len : o.keys.length = o.kids.length
  le : o.keys.length ≤ L
  kids : ∀ y ∈ o.kids, wg 10000 11 y = true
theorem Gt.nil : Gt zn 0 := ⟨.inl rfl, rfl, Nat.le_refl _, fun y h => by cases h⟩
theorem Gt.okW {o : Node} {L : Nat} (h : Gt o L) (hL : L ≤ 1000000) (k : List UInt8) (v : Node) : okWp o k v = true := fit_iff.2 ⟨⟨by have := h.le; show o.keys.length ≤ 1000000; omega, by have := h.le; have := h.len; show o.kids.length ≤ 1000000; omega⟩, fun _ => h.len⟩
theorem Gt.put {o : Node} {L : Nat} (h : Gt o L) {k : List UInt8} {v : Node} (hv : wg 10000 11 v = true) : Gt (withP o k v) (L + 1) := by
  have hc : (bif o.kind != 3 then o.kind != 0 else false) = false := by rcases h.kind with e | e <;> rw [e] <;> rfl
  unfold withP
  rw [hc, cond_false]
  have hl := h.len
  have hle := h.le
  by_cases h0 : 0 ≤ index o.keys k
  · rw [dT h0, cond_true]
    refine ⟨.inr rfl, by simpa using hl, Nat.le_succ_of_le hle, fun y hy => ?_⟩
    rcases List.mem_or_eq_of_mem_set hy with hy | rfl
    · exact h.kids y hy
    · exact hv
  · rw [dF h0, cond_false]
    refine ⟨.inr rfl, by simpa using hl, by simpa using hle, fun y hy => ?_⟩
    rcases List.mem_append.1 hy with hy | hy
    · exact h.kids y hy
    · rw [List.mem_singleton.1 hy]; exact hv
theorem Gt.wg {o : Node} {L : Nat} (h : Gt o L) {bad : Bool} (hf : failB o bad = false) : wg 10000 12 ⟨3, o.text, o.keys, o.kids⟩ = true := by
  have hk : o.keys.length ≤ 32 := by
    unfold failB at hf
    cases bad with
    | true => cases hf
    | false =>
      simp only [cond_false, decide_eq_false_iff_not] at hf
      omega
  exact wg_iff.2 ⟨by show o.keys.length ≤ 10000; omega, by have := h.len; show o.kids.length ≤ 10000; omega, fun _ => h.len, h.kids⟩
theorem nset_1 (l : List (List UInt8)) (hl : l.length ≤ 1000000) (hs : ∀ s ∈ l, s.length ≤ 1000000) (u3 : Int) (u4 : List UInt8) : ∀ (m i : Nat) (o : Node) (bad : Bool), l.length - i = m → i ≤ l.length → Gt o i →
    Ev E Tryz.f29 [⟨.api_Node, dnV (putAll (fun _ => zn) (l.drop i) o) (bad || (l.drop i).any fun s => !(ofV s1B s2B s))⟩, ⟨.api_Errno, dnE (putAll (fun _ => zn) (l.drop i) o) (bad || (l.drop i).any fun s => !(ofV s1B s2B s))⟩] 1 (nset_C1 l l.length i u3 u4 o.kind o.text o.keys o.kids bad) := by
  intro m
  induction m with
  | zero =>
    intro i o bad h1 h2 h3
    refine nset_s1 ?_
    simp only [nset_t1, dge (show l.length ≤ i by omega), cond_false, List.drop_eq_nil_of_le (show l.length ≤ i by omega), putAll, List.any_nil, Bool.or_false, dnV, dnE, node_eta]
    cases hf : failB o bad with
    | true =>
      have hf' : (bif bad then true else decide ((32 : Int) < (o.keys.length : Int))) = true := hf
      rw [hf']; rfl
    | false =>
      have hf' : (bif bad then true else decide ((32 : Int) < (o.keys.length : Int))) = false := hf
      rw [hf', h3.wg hf]; rfl
  | succ m ih =>
    intro i o bad h1 h2 h3
    have hi : i < l.length := by omega
    have e3 : w64 ((i : Int) + 1) = ((i + 1 : Nat) : Int) := by rw [w64_id (by omega) (by omega)]; omega
    have e4 : okNm1 l[i] = true := decide_eq_true (hs _ (List.getElem_mem hi))
    refine nset_s1 ?_
    simp only [nset_t1, dlt hi, d0, gd l _ i hi, Bool.and_self, cond_true, e3, e4, node_eta, h3.okW (by omega)]
    have := Gr_of (ih (i + 1) (withP o l[i] zn) (bif bad then true else !(ofV s1B s2B l[i])) (by omega) (by omega) (h3.put rfl))
    rw [← List.getElem_cons_drop hi]
    simp only [putAll, List.any_cons]
    have eb : (bad || (!(ofV s1B s2B l[i]) || (l.drop (i + 1)).any fun s => !(ofV s1B s2B s))) = ((bif bad then true else !(ofV s1B s2B l[i])) || (l.drop (i + 1)).any fun s => !(ofV s1B s2B s)) := by
      cases bad <;> rfl
    rw [eb]
    exact this
theorem nset_0 (n : Node) (hl : n.keys.length ≤ 1000000) (hk : n.kids.length ≤ 1000000) (hs : ∀ s ∈ n.keys, s.length ≤ 1000000) (u5 : Int) (u6 : List UInt8) : ∀ (m i : Nat) (bad : Bool), n.kids.length - i = m → i ≤ n.kids.length →
    Ev E Tryz.f29 [⟨.api_Node, dnV (putAll (fun _ => zn) n.keys zn) ((bad || (n.kids.drop i).any badKid) || n.keys.any fun s => !(ofV s1B s2B s))⟩, ⟨.api_Errno, dnE (putAll (fun _ => zn) n.keys zn) ((bad || (n.kids.drop i).any badKid) || n.keys.any fun s => !(ofV s1B s2B s))⟩] 0 (nset_C0 n.keys true n.kids n.kids.length i u5 u6 0 [] bad) := by
  intro m
  induction m with
  | zero =>
    intro i bad h1 h2
    refine nset_s0 ?_
    simp only [nset_t0, dge (show n.kids.length ≤ i by omega), cond_false, List.drop_eq_nil_of_le (show n.kids.length ≤ i by omega), List.any_nil, Bool.or_false, Bool.not_true]
    have := Gr_of (nset_1 n.keys hl hs u5 u6 n.keys.length 0 zn bad rfl (Nat.zero_le _) Gt.nil)
    rw [List.drop_zero] at this
    have eb : (bif bad then true else false) = bad := by cases bad <;> rfl
    rw [eb]
    exact this
  | succ m ih =>
    intro i bad h1 h2
    have hi : i < n.kids.length := by omega
    have e3 : w64 ((i : Int) + 1) = ((i + 1 : Nat) : Int) := by rw [w64_id (by omega) (by omega)]; omega
    refine nset_s0 ?_
    simp only [nset_t0, dlt hi, d0, gd n.kids _ i hi, Bool.and_self, cond_true, e3]
    have := Gr_of (ih (i + 1) (bif bad then true else badKid n.kids[i]) (by omega) (by omega))
    rw [← List.getElem_cons_drop hi]
    simp only [List.any_cons]
    have eb : (bad || (badKid n.kids[i] || (n.kids.drop (i + 1)).any badKid)) = ((bif bad then true else badKid n.kids[i]) || (n.kids.drop (i + 1)).any badKid) := by
      cases bad <;> rfl
    rw [eb]
    exact this
theorem txsV_len : ∀ (l : List Node) (t : List (List UInt8)), txsV l = some t → t.length ≤ l.length
  | [], t, h => by cases h; exact Nat.zero_le _
  | x :: r, t, h => by
    unfold txsV at h
    cases hb : x.kind != 1 with
    | true => rw [hb] at h; cases h
    | false =>
      rw [hb, cond_false] at h
      cases hr : txsV r with
      | none => rw [hr] at h; cases h
      | some q =>
        rw [hr] at h
        cases h
        have := txsV_len r q hr
        simp only [List.length_cons]; omega
theorem txsL_len (n : Node) : (txsL n).length ≤ n.kids.length := by
  unfold txsL
  cases h : txsV n.kids with
  | none => exact Nat.zero_le _
  | some t => exact txsV_len _ _ h
theorem nset_ok : FnOk E nset_id nset_W := nset_ok_of fun n hk => by
  simp only [okSet, Bool.and_eq_true, decide_eq_true_eq, List.all_eq_true] at hk
  obtain ⟨⟨h1, h2⟩, h3⟩ := hk
  have e1 : okTx n = true := decide_eq_true h2
  simp only [nset_t, node_eta, e1, cond_true]
  unfold setVn setEn setF setO setL set0 at *
  change (bif memB n 3 then _ else _) = _
  cases hm : memB n 3 with
  | true =>
    simp only [hm, cond_true] at h3 ⊢
    have := Gr_of (nset_0 n h1 h2 h3 0 [] n.kids.length 0 false (by omega) (Nat.zero_le _))
    rw [List.drop_zero] at this
    exact this
  | false =>
    simp only [hm, cond_false] at h3 ⊢
    have := Gr_of (nset_1 (txsL n) (Nat.le_trans (txsL_len n) h2) h3 0 [] (txsL n).length 0 zn (!(txsB n)) rfl (Nat.zero_le _) Gt.nil)
    rw [List.drop_zero] at this
    exact this
end Go.Proofs.YtpmknebhacaocaaGreatDoor.Rf