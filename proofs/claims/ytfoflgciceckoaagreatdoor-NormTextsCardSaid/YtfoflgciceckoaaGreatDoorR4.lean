/- The reference's With and Right (08), by the Mirror. -/
import Derived.Test.YtfoflgciceckoaaGreatDoorR3
namespace Go.Proofs.YtfoflgciceckoaaGreatDoor.Rf
open Go Go.RowKit Go.Sort Go.Proofs.YtfoflgciceckoaaGreatDoor.Mir
/-! ### The reference's With and Right -/
def wKids (k : List UInt8) (v : Node) : List (List UInt8) → List Node → List Node
  | a :: t, x :: w => (bif a == k then v else x) :: wKids k v t w
  | _, _ => []
theorem wKids_len (k : List UInt8) (v : Node) : ∀ (ks : List (List UInt8)) (vs : List Node), ks.length = vs.length → (wKids k v ks vs).length = ks.length
  | [], [], _ => rfl
  | a :: t, x :: w, h => by simp only [wKids, List.length_cons]; rw [wKids_len k v t w (by simpa using h)]
  | [], _ :: _, h => by simp at h
  | _ :: _, [], h => by simp at h
theorem wKids_mem (k : List UInt8) (v : Node) : ∀ (ks : List (List UInt8)) (vs : List Node) (y : Node), y ∈ wKids k v ks vs → y = v ∨ y ∈ vs
  | [], vs, y, h => by simp [wKids] at h
  | _ :: _, [], y, h => by simp [wKids] at h
  | a :: t, x :: w, y, h => by
    simp only [wKids, List.mem_cons] at h
    rcases h with h | h
    · cases hb : a == k with
      | true => rw [hb] at h; exact .inl h
      | false => rw [hb] at h; exact .inr (by rw [h]; exact List.mem_cons_self)
    · rcases wKids_mem k v t w y h with h | h
      · exact .inl h
      · exact .inr (List.mem_cons_of_mem _ h)
def newK (th : Bool) (k : List UInt8) : List (List UInt8) := bif th then [] else [k]
def newV (th : Bool) (v : Node) : List Node := bif th then [] else [v]
/-- A map with a value by a key. -/
def withV (x : Node) (k : List UInt8) (v : Node) : Node := bif (bif x.kind != 0 then x.kind != 3 else false) then x else ⟨3, [], x.keys ++ newK (inV x.keys k) k, wKids k v x.keys x.kids ++ newV (inV x.keys k) v⟩
def okWi (x : Node) (_ : List UInt8) (_ : Node) : Bool := decide (x.keys.length ≤ 100000) && decide (x.keys.length = x.kids.length)
theorem okWi_iff {x : Node} {k : List UInt8} {v : Node} : okWi x k v = true ↔ x.keys.length ≤ 100000 ∧ x.keys.length = x.kids.length := by simp [okWi]
noncomputable def rwith_W : FnW E := fn3 (E := E) .api_Node .str .api_Node .api_Node okWi withV
def rwith_id : FuncId := 92
noncomputable def rwith_O : Oracle E := orac [] [] [] []
noncomputable def rwith_H : Hint E := Hint.mk [(0, [1, 3, 5, 6, 7, 8, 9])] [] [(0, [(7, some 2, true, .str), (7, some 3, true, .api_Node)])] [] []
noncomputable def rwith_C0 (v0 : List UInt8) (v1 : Bool) (v2 v3 : Int) (v4 : List UInt8) (v5 : List (List UInt8)) (v6 : List Node) (v7 : Int) (v8 : List UInt8) (v9 : List (List UInt8)) (v10 : List Node) (v11 : Int) (v12 : List UInt8) (v13 : Int) (v14 : List UInt8) (v15 : List (List UInt8)) (v16 : List Node) : ASt E := ASt.mk 75 [(1, .d (.str v0)), (3, .ptr 0 0), (5, .ptr 1 0), (6, .ptr 2 0), (7, .ptr 3 0), (8, .d (.bool v1)), (9, .d (.int .i64 v2))] [(0, .box [.d (.int .i64 v3), .d (.str v4), .d (.slice .str v5), .d (.slice .api_Node v6)]), (1, .box [.d (.int .i64 v7), .d (.str v8), .d (.slice .str v9), .d (.slice .api_Node v10)]), (2, .box [.d (.int .i64 v11), .d (.str v12), .d (.raw (.slice none 0 0)), .d (.raw (.slice none 0 0))]), (3, .box [.d (.int .i64 v13), .d (.str v14), .grow .str v15 4, .grow .api_Node v16 5]), (4, .tail true), (5, .tail true)] 6
noncomputable def rwith_t (G : Nat → ASt E → Option (List (TV E))) (x0 : Node) (x1 : List UInt8) (x2 : Node) : Option (List (TV E)) :=
  bif (bif (x0.kind != (0 : Int)) then (x0.kind != (3 : Int)) else false) then some [⟨.api_Node, (⟨x0.kind, x0.text, x0.keys, x0.kids⟩ : Node)⟩] else G 0 (rwith_C0 x1 false (0 : Int) x0.kind x0.text x0.keys x0.kids x2.kind x2.text x2.keys x2.kids (0 : Int) ([] : List UInt8) (3 : Int) ([] : List UInt8) ([] : List (List UInt8)) ([] : List Node))
theorem rwith_e (G : Nat → ASt E → Option (List (TV E))) (x0 : Node) (x1 : List UInt8) (x2 : Node) : runE rwith_O rwith_H G Tryz.f92 [⟨.api_Node, x0⟩, ⟨.str, x1⟩, ⟨.api_Node, x2⟩] = rwith_t G x0 x1 x2 := by kernel_rfl
noncomputable def rwith_t0 (G : Nat → ASt E → Option (List (TV E))) (v0 : List UInt8) (v1 : Bool) (v2 v3 : Int) (v4 : List UInt8) (v5 : List (List UInt8)) (v6 : List Node) (v7 : Int) (v8 : List UInt8) (v9 : List (List UInt8)) (v10 : List Node) (v11 : Int) (v12 : List UInt8) (v13 : Int) (v14 : List UInt8) (v15 : List (List UInt8)) (v16 : List Node) : Option (List (TV E)) :=
  bif (decide (v2 < (v5.length : Int))) then (bif (decide ((0 : Int) ≤ v2) && decide (v2 < (v5.length : Int))) then (bif (decide ((v15.length + ([(List.getD v5 (Int.toNat v2) (dflt .str))] : List (List UInt8)).length) * 16 ≤ maxBytes)) then (bif (decide ((0 : Int) ≤ v2) && decide (v2 < (v5.length : Int))) then (bif ((List.getD v5 (Int.toNat v2) (dflt .str)) == v0) then (bif (decide ((v16.length + ([(⟨v7, v8, v9, v10⟩ : Node)] : List Node).length) * 72 ≤ maxBytes)) then G 0 (rwith_C0 v0 true (w64 (v2 + (1 : Int))) v3 v4 v5 v6 v7 v8 v9 v10 v11 v12 v13 v14 (v15 ++ ([(List.getD v5 (Int.toNat v2) (dflt .str))] : List (List UInt8))) (v16 ++ ([(⟨v7, v8, v9, v10⟩ : Node)] : List Node))) else none) else (bif (decide ((0 : Int) ≤ v2) && decide (v2 < (v6.length : Int))) then (bif (decide ((v16.length + ([(⟨(List.getD v6 (Int.toNat v2) (dflt .api_Node)).kind, (List.getD v6 (Int.toNat v2) (dflt .api_Node)).text, (List.getD v6 (Int.toNat v2) (dflt .api_Node)).keys, (List.getD v6 (Int.toNat v2) (dflt .api_Node)).kids⟩ : Node)] : List Node).length) * 72 ≤ maxBytes)) then G 0 (rwith_C0 v0 v1 (w64 (v2 + (1 : Int))) v3 v4 v5 v6 v7 v8 v9 v10 v11 v12 v13 v14 (v15 ++ ([(List.getD v5 (Int.toNat v2) (dflt .str))] : List (List UInt8))) (v16 ++ ([(⟨(List.getD v6 (Int.toNat v2) (dflt .api_Node)).kind, (List.getD v6 (Int.toNat v2) (dflt .api_Node)).text, (List.getD v6 (Int.toNat v2) (dflt .api_Node)).keys, (List.getD v6 (Int.toNat v2) (dflt .api_Node)).kids⟩ : Node)] : List Node))) else none) else none)) else none) else none) else none) else (bif (!v1) then (bif (decide ((v15.length + ([v0] : List (List UInt8)).length) * 16 ≤ maxBytes)) then (bif (decide ((v16.length + ([(⟨v7, v8, v9, v10⟩ : Node)] : List Node).length) * 72 ≤ maxBytes)) then some [⟨.api_Node, (⟨v13, v14, (v15 ++ ([v0] : List (List UInt8))), (v16 ++ ([(⟨v7, v8, v9, v10⟩ : Node)] : List Node))⟩ : Node)⟩] else none) else none) else some [⟨.api_Node, (⟨v13, v14, v15, v16⟩ : Node)⟩])
theorem rwith_l0 (G : Nat → ASt E → Option (List (TV E))) (v0 : List UInt8) (v1 : Bool) (v2 v3 : Int) (v4 : List UInt8) (v5 : List (List UInt8)) (v6 : List Node) (v7 : Int) (v8 : List UInt8) (v9 : List (List UInt8)) (v10 : List Node) (v11 : Int) (v12 : List UInt8) (v13 : Int) (v14 : List UInt8) (v15 : List (List UInt8)) (v16 : List Node) : runL rwith_O rwith_H G Tryz.f92 0 (rwith_C0 v0 v1 v2 v3 v4 v5 v6 v7 v8 v9 v10 v11 v12 v13 v14 v15 v16) = rwith_t0 G v0 v1 v2 v3 v4 v5 v6 v7 v8 v9 v10 v11 v12 v13 v14 v15 v16 := by kernel_rfl
theorem rwith_f : Tryz.prog.funcs[92]? = some Tryz.f92 := by kernel_rfl
theorem rwith_n : (Tryz.f92.name == "runtime.NumGoroutine") = false := by kernel_rfl
theorem rwith_b : Tryz.f92.body.isNone = false := by kernel_rfl
theorem rwith_ex : ∃ fn, Tryz.prog.funcs[92]? = some fn ∧ (fn.name == "runtime.NumGoroutine") = false ∧ fn.body.isNone = false := ⟨Tryz.f92, rwith_f, rwith_n, rwith_b⟩
theorem rwith_hO : OracleOk E rwith_O := orac_ok .nil .nil .nil .nil
theorem rwith_s0 {res : List (TV E)} {v0 : List UInt8} {v1 : Bool} {v2 v3 : Int} {v4 : List UInt8} {v5 : List (List UInt8)} {v6 : List Node} {v7 : Int} {v8 : List UInt8} {v9 : List (List UInt8)} {v10 : List Node} {v11 : Int} {v12 : List UInt8} {v13 : Int} {v14 : List UInt8} {v15 : List (List UInt8)} {v16 : List Node} (h : rwith_t0 (Gr E Tryz.f92 res) v0 v1 v2 v3 v4 v5 v6 v7 v8 v9 v10 v11 v12 v13 v14 v15 v16 = some res) : Ev E Tryz.f92 res 0 (rwith_C0 v0 v1 v2 v3 v4 v5 v6 v7 v8 v9 v10 v11 v12 v13 v14 v15 v16) := Ev.step rwith_hO mix ((rwith_l0 _ v0 v1 v2 v3 v4 v5 v6 v7 v8 v9 v10 v11 v12 v13 v14 v15 v16).trans h)
theorem rwith_ok_of (h : ∀ (x0 : Node) (x1 : List UInt8) (x2 : Node), okWi x0 x1 x2 = true → rwith_t (Gr E Tryz.f92 [⟨.api_Node, withV x0 x1 x2⟩]) x0 x1 x2 = some [⟨.api_Node, withV x0 x1 x2⟩]) : FnOk E rwith_id rwith_W := fn3_ok rwith_hO mix rwith_f rwith_n rwith_b (fun x0 x1 x2 hk => (rwith_e _ x0 x1 x2).trans (h x0 x1 x2 hk))
theorem rwith_0 (keys : List (List UInt8)) (kids : List Node) (k : List UInt8) (v : Node) (hs : keys.length ≤ 100000) (hl : keys.length = kids.length) (a0 : Int) (a1 : List UInt8) (u0 : Int) (u1 : List UInt8) (u2 : Int) (u3 : List UInt8) : ∀ (m i : Nat) (th : Bool) (ok : List (List UInt8)) (ov : List Node), keys.length - i = m → i ≤ keys.length → ok.length = i → ov.length = i → 
    Ev E Tryz.f92 [⟨.api_Node, (⟨u2, u3, ok ++ (keys.drop i ++ newK (th || inV (keys.drop i) k) k), ov ++ (wKids k v (keys.drop i) (kids.drop i) ++ newV (th || inV (keys.drop i) k) v)⟩ : Node)⟩] 0 (rwith_C0 k th i a0 a1 keys kids v.kind v.text v.keys v.kids u0 u1 u2 u3 ok ov) := by
  intro m
  induction m with
  | zero =>
    intro i th ok ov h1 h2 h3 h4
    refine rwith_s0 ?_
    simp only [rwith_t0, dge (show keys.length ≤ i by omega), cond_false, List.drop_eq_nil_of_le (show keys.length ≤ i by omega)]
    cases th with
    | true => simp [newK, newV, wKids]
    | false =>
      rw [Bool.not_false, cond_true, dT (show (ok.length + [k].length) * 16 ≤ maxBytes by rw [mb, List.length_singleton]; omega), cond_true, node_eta, dT (show (ov.length + [v].length) * 72 ≤ maxBytes by rw [mb, List.length_singleton]; omega), cond_true]
      simp [newK, newV, wKids, inV]
  | succ m ih2 =>
    intro i th ok ov h1 h2 h3 h4
    have hi : i < keys.length := by omega
    have hj : i < kids.length := by omega
    have e3 : w64 ((i : Int) + 1) = ((i + 1 : Nat) : Int) := by rw [w64_id (by omega) (by omega)]; omega
    refine rwith_s0 ?_
    simp only [rwith_t0, dlt hi, d0, gd keys _ i hi, e3, Bool.and_self, Bool.true_or, cond_true, node_eta, dlt hj, gd kids _ i hj]
    rw [← List.getElem_cons_drop hi]
    have e1 : ∀ x : List UInt8, decide ((ok.length + [x].length) * 16 ≤ maxBytes) = true := fun x => dT (by rw [mb, List.length_singleton]; omega)
    have e2 : ∀ x : Node, decide ((ov.length + [x].length) * 72 ≤ maxBytes) = true := fun x => dT (by rw [mb, List.length_singleton]; omega)
    simp only [e1, e2, cond_true]
    rw [← List.getElem_cons_drop hj]
    simp only [wKids, inV, List.any_cons]
    cases hb : keys[i] == k with
    | true =>
      simp only [cond_true]
      have := Gr_of (ih2 (i + 1) true (ok ++ [keys[i]]) (ov ++ [v]) (by omega) (by omega) (by simp [h3]) (by simp [h4]))
      simp only [inV, Bool.true_or, Bool.or_true, List.append_assoc, List.singleton_append] at this ⊢
      exact this
    | false =>
      simp only [cond_false]
      have := Gr_of (ih2 (i + 1) th (ok ++ [keys[i]]) (ov ++ [kids[i]]) (by omega) (by omega) (by simp [h3]) (by simp [h4]))
      simp only [inV, Bool.false_or, List.append_assoc, List.singleton_append] at this ⊢
      exact this
theorem rwith_ok : FnOk E rwith_id rwith_W := rwith_ok_of fun x k v hk => by
  obtain ⟨h1, h2⟩ := okWi_iff.1 hk
  unfold withV
  simp only [rwith_t, node_eta]
  cases hc : (bif x.kind != 0 then x.kind != 3 else false) with
  | true => simp only [cond_true]
  | false =>
    simp only [cond_false]
    have := Gr_of (rwith_0 x.keys x.kids k v h1 h2 x.kind x.text 0 [] 3 [] x.keys.length 0 false [] [] (by omega) (by omega) rfl rfl)
    rw [List.drop_zero, List.drop_zero, List.nil_append, List.nil_append, Bool.false_or] at this
    exact this
theorem newKV (th : Bool) (k : List UInt8) (v : Node) : (newK th k).length = (newV th v).length ∧ (newK th k).length ≤ 1 := by cases th <;> exact ⟨rfl, by simp [newK]⟩
/-- What With makes of a node that is nothing or a map: a map whose rows fit. -/
theorem withV_fit {x : Node} {k : List UInt8} {v : Node} (hk : x.kind = 0 ∨ x.kind = 3) (h : x.keys.length = x.kids.length) :
    (withV x k v).kind = 3 ∧ (withV x k v).keys.length = (withV x k v).kids.length ∧ (withV x k v).keys.length ≤ x.keys.length + 1 ∧ ∀ y ∈ (withV x k v).kids, y = v ∨ y ∈ x.kids := by
  have hc : (bif x.kind != 0 then x.kind != 3 else false) = false := by rcases hk with e | e <;> rw [e] <;> rfl
  unfold withV
  rw [hc]
  have hw := wKids_len k v x.keys x.kids h
  have hn := newKV (inV x.keys k) k v
  refine ⟨rfl, ?_, ?_, fun y hy => ?_⟩
  · simp only [cond_false, List.length_append, hw, hn.1]
  · simp only [cond_false, List.length_append]; omega
  · simp only [cond_false, List.mem_append] at hy
    rcases hy with hy | hy
    · exact wKids_mem k v _ _ y hy
    · left
      unfold newV at hy
      cases hi : inV x.keys k with
      | true => rw [hi] at hy; cases hy
      | false => rw [hi] at hy; simpa using hy
theorem left_wg : ∀ (n : Nat) (x : Node) (d l : Int) (B : Nat), d + (n + 1 : Nat) = 14 → l ≤ B + 1 → 0 ≤ leftV (n + 1) x d l → wg B n x = true
  | n, x, d, l, B, hd, hl, h => by
    unfold leftV at h
    cases h1 : badA x d (l - 1) with
    | true => rw [h1, cond_true] at h; omega
    | false =>
      cases h2 : badB x with
      | true => rw [h1, h2, cond_false, cond_true] at h; omega
      | false =>
        cases h3 : badC x (l - 1) with
        | true => rw [h1, h2, h3, cond_false, cond_false, cond_true] at h; omega
        | false =>
          rw [h1, h2, h3, cond_false, cond_false, cond_false] at h
          have hA : ¬ 12 < d := by
            intro a2
            unfold badA at h1
            rw [dT a2] at h1
            cases hx : decide (l - 1 < 0) <;> rw [hx] at h1 <;> cases h1
          obtain ⟨m, rfl⟩ : ∃ m, n = m + 1 := ⟨n - 1, by omega⟩
          obtain ⟨q1, q2⟩ := kidsV_le (fun k l h => leftV_le (m + 1) k (d + 1) l h) x.kids (l - 1) h
          have hrec : ∀ y ∈ x.kids, wg B m y = true := fun y hy => by
            obtain ⟨l', h4, h5⟩ := q2 y hy
            exact left_wg m y (d + 1) l' B (by omega) (by omega) h4
          have hkeys : (x.kind = 3 → x.keys.length = x.kids.length) ∧ (x.kind ≠ 3 → x.keys.length = 0) := by
            constructor
            · intro e
              unfold badC at h3
              rw [eqT e, cond_true] at h3
              by_cases a1 : (x.keys.length : Int) = x.kids.length
              · omega
              · rw [neT a1] at h3; cases h3
            · intro e
              unfold badB at h2
              rw [neT e, cond_true] at h2
              by_cases a1 : (0 : Int) < (x.keys.length : Int)
              · rw [dT a1] at h2
                cases hx : (bif x.kind != 1 then decide ((0 : Int) < (x.text.length : Int)) else false) <;> rw [hx] at h2 <;> cases h2
              · omega
          have hk : x.keys.length ≤ B := by
            by_cases e : x.kind = 3
            · have := hkeys.1 e; omega
            · have := hkeys.2 e; omega
          exact wg_iff.2 ⟨hk, by omega, hkeys.1, hrec⟩
  termination_by n => n
def rightB (x : Node) : Bool := decide (0 ≤ leftV 13 x 1 2000)
end Go.Proofs.YtfoflgciceckoaaGreatDoor.Rf