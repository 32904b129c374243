/- Part 4 of a proof: the texts R3 MirX N1 N2 N3 N4 N5 MirW N6 N7 R4 R5 R10 R11 N8 N9, one behind the other. -/
import Derived.Test.YtgniedpgdjmfpaaGreatDoorZ3
namespace Go.Proofs.YtgniedpgdjmfpaaGreatDoor.Rf
open Go Go.RowKit Go.Sort Go.Proofs.YtgniedpgdjmfpaaGreatDoor.Mir
theorem node_eta (x : Node) : (⟨x.kind, x.text, x.keys, x.kids⟩ : Node) = x := by cases x; rfl
def zn : Node := ⟨0, [], [], []⟩
def lk : List (List UInt8) → List Node → List UInt8 → Option Node
  | a :: t, v :: w, k => if k = a then some v else lk t w k
  | _, _, _ => none
def get (n : Node) (k : List UInt8) : Option Node := if n.kind = 3 then lk n.keys n.kids k else none
def getV (n : Node) (k : List UInt8) : Node := (get n k).getD zn
def getB (n : Node) (k : List UInt8) : Bool := (get n k).isSome
def fit (n : Node) : Bool := decide (n.keys.length ≤ 1000000) && decide (n.kids.length ≤ 1000000) && (n.kind != 3 || decide (n.keys.length = n.kids.length))
theorem fit_iff {n : Node} : fit n = true ↔ (n.keys.length ≤ 1000000 ∧ n.kids.length ≤ 1000000) ∧ (n.kind = 3 → n.keys.length = n.kids.length) := by
  simp only [fit, Bool.and_eq_true, Bool.or_eq_true, decide_eq_true_eq, bne_iff_ne]
  constructor
  · rintro ⟨h, h2⟩
    exact ⟨h, fun e => h2.resolve_left (fun h => h e)⟩
  · rintro ⟨h, h2⟩
    refine ⟨h, ?_⟩
    by_cases e : n.kind = 3
    · exact .inr (h2 e)
    · exact .inl e
def place (n : Node) (k : List UInt8) : Int := if n.kind = 3 then index n.keys k else -1
noncomputable def nplace_W : FnW E := fn2 (E := E) .api_Node .str .int (fun n _ => fit n) place
def nplace_id : FuncId := 112
noncomputable def nplace_O : Oracle E := orac [(156, nat_W)] [] [] []
noncomputable def nplace_H : Hint E := Hint.mk [] [] [] [] []
noncomputable def nplace_t (_G : Nat → ASt E → Option (List (TV E))) (x0 : Node) (x1 : List UInt8) : Option (List (TV E)) :=
  bif (bif (x0.kind != (3 : Int)) then true else ((x0.keys.length : Int) != (x0.kids.length : Int))) then some [⟨.int, (-1 : Int)⟩] else (bif ((fun l _ => ln6 l) x0.keys x1) then some [⟨.int, (index x0.keys x1)⟩] else none)
theorem nplace_e (G : Nat → ASt E → Option (List (TV E))) (x0 : Node) (x1 : List UInt8) : runE nplace_O nplace_H G Tryz.f112 [⟨.api_Node, x0⟩, ⟨.str, x1⟩] = nplace_t G x0 x1 := by kernel_rfl
theorem nplace_f : Tryz.prog.funcs[112]? = some Tryz.f112 := by kernel_rfl
theorem nplace_n : (Tryz.f112.name == "runtime.NumGoroutine") = false := by kernel_rfl
theorem nplace_b : Tryz.f112.body.isNone = false := by kernel_rfl
theorem nplace_hO : OracleOk E nplace_O := orac_ok (.cons nat_ok .nil) .nil .nil .nil
theorem nplace_ok_of (h : ∀ (x0 : Node) (x1 : List UInt8), (fun n _ => fit n) x0 x1 = true → nplace_t (Gr E Tryz.f112 [⟨.int, place x0 x1⟩]) x0 x1 = some [⟨.int, place x0 x1⟩]) : FnOk E nplace_id nplace_W := fn2_ok nplace_hO mix nplace_f nplace_n nplace_b (fun x0 x1 hk => (nplace_e _ x0 x1).trans (h x0 x1 hk))
theorem nplace_ok : FnOk E nplace_id nplace_W := nplace_ok_of fun n k hk => by
  have hf := fit_iff.1 hk
  have h1 : ln6 n.keys = true := ln6_iff.2 hf.1.1
  unfold place
  by_cases h : n.kind = 3
  · rw [if_pos h]
    simp only [nplace_t, h1, cond_true, neF h, cond_false]
    rw [neF (by have := hf.2 h; omega), cond_false]
  · rw [if_neg h]
    simp only [nplace_t, neT h, cond_true]
theorem idx_lk : ∀ (keys : List (List UInt8)) (kids : List Node) (k : List UInt8) (i : Nat), keys.length = kids.length →
    (idxF k i keys = -1 ∧ lk keys kids k = none) ∨ ∃ (j : Nat) (h : j < kids.length), idxF k i keys = ((i + j : Nat) : Int) ∧ lk keys kids k = some kids[j]
  | [], [], k, i, _ => .inl ⟨rfl, rfl⟩
  | a :: t, v :: w, k, i, h => by
    unfold idxF lk
    by_cases e : k = a
    · rw [if_pos e, if_pos e]
      exact .inr ⟨0, by simp, by simp, rfl⟩
    · rw [if_neg e, if_neg e]
      rcases idx_lk t w k (i + 1) (by simpa using h) with h1 | ⟨j, hj, h1, h2⟩
      · exact .inl h1
      · exact .inr ⟨j + 1, by simpa using hj, by rw [h1]; omega, by simpa using h2⟩
  | [], _ :: _, _, _, h => by simp at h
  | _ :: _, [], _, _, h => by simp at h
noncomputable def nget_W : FnW E := fn22 (E := E) .api_Node .str .api_Node .bool (fun n _ => fit n) getV getB
def nget_id : FuncId := 71
noncomputable def nget_O : Oracle E := orac [(112, nplace_W)] [] [] []
noncomputable def nget_H : Hint E := Hint.mk [] [] [] [] []
noncomputable def nget_t (_G : Nat → ASt E → Option (List (TV E))) (x0 : Node) (x1 : List UInt8) : Option (List (TV E)) :=
  bif ((fun n _ => fit n) (⟨x0.kind, x0.text, x0.keys, x0.kids⟩ : Node) x1) then (bif (decide ((place ⟨x0.kind, x0.text, x0.keys, x0.kids⟩ x1) < (0 : Int))) then some [⟨.api_Node, (⟨0, [], [], []⟩ : Node)⟩, ⟨.bool, false⟩] else (bif (decide ((0 : Int) ≤ (place ⟨x0.kind, x0.text, x0.keys, x0.kids⟩ x1)) && decide ((place ⟨x0.kind, x0.text, x0.keys, x0.kids⟩ x1) < (x0.kids.length : Int))) then some [⟨.api_Node, (⟨(List.getD x0.kids (Int.toNat (place ⟨x0.kind, x0.text, x0.keys, x0.kids⟩ x1)) (dflt .api_Node)).kind, (List.getD x0.kids (Int.toNat (place ⟨x0.kind, x0.text, x0.keys, x0.kids⟩ x1)) (dflt .api_Node)).text, (List.getD x0.kids (Int.toNat (place ⟨x0.kind, x0.text, x0.keys, x0.kids⟩ x1)) (dflt .api_Node)).keys, (List.getD x0.kids (Int.toNat (place ⟨x0.kind, x0.text, x0.keys, x0.kids⟩ x1)) (dflt .api_Node)).kids⟩ : Node)⟩, ⟨.bool, true⟩] else none)) else none
theorem nget_e (G : Nat → ASt E → Option (List (TV E))) (x0 : Node) (x1 : List UInt8) : runE nget_O nget_H G Tryz.f71 [⟨.api_Node, x0⟩, ⟨.str, x1⟩] = nget_t G x0 x1 := by kernel_rfl
theorem nget_f : Tryz.prog.funcs[71]? = some Tryz.f71 := by kernel_rfl
theorem nget_n : (Tryz.f71.name == "runtime.NumGoroutine") = false := by kernel_rfl
theorem nget_b : Tryz.f71.body.isNone = false := by kernel_rfl
theorem nget_hO : OracleOk E nget_O := orac_ok (.cons nplace_ok .nil) .nil .nil .nil
theorem nget_ok_of (h : ∀ (x0 : Node) (x1 : List UInt8), (fun n _ => fit n) x0 x1 = true → nget_t (Gr E Tryz.f71 [⟨.api_Node, getV x0 x1⟩, ⟨.bool, getB x0 x1⟩]) x0 x1 = some [⟨.api_Node, getV x0 x1⟩, ⟨.bool, getB x0 x1⟩]) : FnOk E nget_id nget_W := fn22_ok nget_hO mix nget_f nget_n nget_b (fun x0 x1 hk => (nget_e _ x0 x1).trans (h x0 x1 hk))
theorem nget_ok : FnOk E nget_id nget_W := nget_ok_of fun n k hk => by
  have hf := fit_iff.1 hk
  simp only [nget_t, node_eta, hk, cond_true]
  by_cases h : n.kind = 3
  · have hp : place n k = idxF k 0 n.keys := by unfold place index; rw [if_pos h]
    have hg : get n k = lk n.keys n.kids k := if_pos h
    unfold getV getB
    rw [hg, hp]
    rcases idx_lk n.keys n.kids k 0 (hf.2 h) with ⟨h1, h2⟩ | ⟨j, hj, h1, h2⟩
    · rw [h1, h2]; rfl
    · rw [h1, h2, Nat.zero_add, dF (by omega), cond_false, d0, dlt hj, Bool.and_self, cond_true, gd n.kids _ j hj]
      rfl
  · have hp : place n k = -1 := by unfold place; rw [if_neg h]
    have hg : get n k = none := if_neg h
    unfold getV getB
    rw [hg, hp]
    rfl
def sameW (f : Node → Node → Bool) : List Node → List Node → Bool
  | [], [] => true
  | a :: s, b :: t => f a b && sameW f s t
  | _, _ => false
def same : Nat → Node → Node → Bool
  | 0, _, _ => false
  | n + 1, a, b => a.kind == b.kind && (a.text == b.text && (a.keys == b.keys && sameW (same n) a.kids b.kids))
def dp : Nat → Node → Bool
  | 0, _ => false
  | n + 1, x => decide (x.keys.length ≤ 1000000) && decide (x.kids.length ≤ 1000000) && x.kids.all (dp n)
theorem dp_iff {n : Nat} {x : Node} : dp (n + 1) x = true ↔ (x.keys.length ≤ 1000000 ∧ x.kids.length ≤ 1000000) ∧ ∀ y ∈ x.kids, dp n y = true := by
  simp only [dp, Bool.and_eq_true, decide_eq_true_eq, List.all_eq_true]
def okS (n : Nat) (a b : Node) : Bool := dp n a && dp n b
theorem sameW_len {f : Node → Node → Bool} : ∀ {a b : List Node}, a.length ≠ b.length → sameW f a b = false
  | [], [], h => absurd rfl h
  | a :: s, b :: t, h => by
    unfold sameW
    rw [sameW_len (a := s) (b := t) (by simpa using h), Bool.and_false]
  | [], _ :: _, _ => rfl
  | _ :: _, [], _ => rfl
def wf (B : Nat) : Nat → Node → Bool
  | 0, _ => false
  | n + 1, x => decide (x.keys.length ≤ B) && decide (x.kids.length ≤ B) && (x.kind != 3 || decide (x.keys.length = x.kids.length)) && decide (x.text.length ≤ 200) && x.keys.all (fun k => decide (k.length ≤ 200)) && x.kids.all (wf B n)
theorem wf_iff {B n : Nat} {x : Node} : wf B (n + 1) x = true ↔ x.keys.length ≤ B ∧ x.kids.length ≤ B ∧ (x.kind = 3 → x.keys.length = x.kids.length) ∧ x.text.length ≤ 200 ∧ (∀ k ∈ x.keys, k.length ≤ 200) ∧ ∀ y ∈ x.kids, wf B n y = true := by
  simp only [wf, Bool.and_eq_true, Bool.or_eq_true, decide_eq_true_eq, bne_iff_ne, List.all_eq_true]
  constructor
  · rintro ⟨⟨⟨⟨⟨h1, h2⟩, h3⟩, h4⟩, h5⟩, h6⟩
    exact ⟨h1, h2, fun e => h3.resolve_left (fun h => h e), h4, h5, h6⟩
  · rintro ⟨h1, h2, h3, h4, h5, h6⟩
    refine ⟨⟨⟨⟨⟨h1, h2⟩, ?_⟩, h4⟩, h5⟩, h6⟩
    by_cases e : x.kind = 3
    · exact .inr (h3 e)
    · exact .inl e
theorem wf_fit {B n : Nat} {x : Node} (h : wf B (n + 1) x = true) (hB : B ≤ 1000) : fit x = true := by
  have := wf_iff.1 h
  exact fit_iff.2 ⟨⟨by omega, by omega⟩, this.2.2.1⟩
def wg (B : Nat) : Nat → Node → Bool
  | 0, _ => false
  | n + 1, x => decide (x.keys.length ≤ B) && decide (x.kids.length ≤ B) && (x.kind != 3 || decide (x.keys.length = x.kids.length)) && x.kids.all (wg B n)
theorem wg_iff {B n : Nat} {x : Node} : wg B (n + 1) x = true ↔ x.keys.length ≤ B ∧ x.kids.length ≤ B ∧ (x.kind = 3 → x.keys.length = x.kids.length) ∧ ∀ y ∈ x.kids, wg B n y = true := by
  simp only [wg, Bool.and_eq_true, Bool.or_eq_true, decide_eq_true_eq, bne_iff_ne, List.all_eq_true]
  constructor
  · rintro ⟨⟨⟨h1, h2⟩, h3⟩, h6⟩
    exact ⟨h1, h2, fun e => h3.resolve_left (fun h => h e), h6⟩
  · rintro ⟨h1, h2, h3, h6⟩
    refine ⟨⟨⟨h1, h2⟩, ?_⟩, h6⟩
    by_cases e : x.kind = 3
    · exact .inr (h3 e)
    · exact .inl e
theorem wg_fit {B n : Nat} {x : Node} (h : wg B (n + 1) x = true) (hB : B ≤ 1000000) : fit x = true := by
  have := wg_iff.1 h
  exact fit_iff.2 ⟨⟨by omega, by omega⟩, this.2.2.1⟩
theorem wg_dp {B : Nat} (hB : B ≤ 1000000) : ∀ {n : Nat} {x : Node}, wg B n x = true → dp n x = true
  | 0, _, h => by cases h
  | n + 1, x, h => by
    have := wg_iff.1 h
    exact dp_iff.2 ⟨⟨by omega, by omega⟩, fun y hy => wg_dp hB (this.2.2.2 y hy)⟩
theorem wg_deep {B : Nat} : ∀ {n : Nat} {x : Node} (k : Nat), wg B n x = true → wg B (n + k) x = true
  | 0, _, _, h => by cases h
  | n + 1, x, k, h => by
    have := wg_iff.1 h
    rw [Nat.add_right_comm]
    exact wg_iff.2 ⟨this.1, this.2.1, this.2.2.1, fun y hy => wg_deep k (this.2.2.2 y hy)⟩
theorem lk_mem : ∀ {keys : List (List UInt8)} {kids : List Node} {k : List UInt8} {x : Node}, lk keys kids k = some x → x ∈ kids
  | a :: t, v :: w, k, x, h => by
    unfold lk at h
    split at h
    · cases h; exact List.mem_cons_self
    · exact List.mem_cons_of_mem _ (lk_mem h)
  | [], _, _, _, h => by cases h
  | _ :: _, [], _, _, h => by cases h
theorem lk_some : ∀ {keys : List (List UInt8)} {kids : List Node} {k : List UInt8}, keys.length = kids.length → k ∈ keys → ∃ x, lk keys kids k = some x
  | a :: t, v :: w, k, hl, h => by
    unfold lk
    by_cases e : k = a
    · exact ⟨v, if_pos e⟩
    · rw [if_neg e]
      exact lk_some (by simpa using hl) ((List.mem_cons.1 h).resolve_left e)
  | [], _, _, _, h => by cases h
  | _ :: _, [], _, hl, _ => by simp at hl
theorem getV_mem {a : Node} {k : List UInt8} (h : getB a k = true) : getV a k ∈ a.kids := by
  unfold getB at h
  unfold getV
  cases hg : get a k with
  | none => rw [hg] at h; cases h
  | some x =>
    unfold get at hg
    split at hg
    · exact lk_mem hg
    · cases hg
theorem getB_g {B n : Nat} {a : Node} {k : List UInt8} (ha : wg B (n + 1) a = true) (h3 : a.kind = 3) (hk : k ∈ a.keys) : getB a k = true := by
  obtain ⟨x, hx⟩ := lk_some ((wg_iff.1 ha).2.2.1 h3) hk
  unfold getB get
  rw [if_pos h3, hx]
  rfl
theorem wg_get {B n : Nat} {a : Node} {k : List UInt8} (ha : wg B (n + 1) a = true) (h : getB a k = true) : wg B n (getV a k) = true := (wg_iff.1 ha).2.2.2 _ (getV_mem h)
def ext : List UInt8 := [101, 120, 116, 101, 110, 100, 115]
def pick (f : Node → Node → Node) (a b : Node) (k : List UInt8) : Node := bif getB b k then (bif getB a k && !(k == ext) then f (getV a k) (getV b k) else getV b k) else getV a k
noncomputable def rget_W : FnW E := fn22 (E := E) .api_Node .str .api_Node .bool (fun n _ => fit n) getV getB
def rget_id : FuncId := 102
noncomputable def rget_O : Oracle E := orac [] [] [] []
noncomputable def rget_H : Hint E := Hint.mk [(0, [1, 2, 4, 6])] [] [] [] []
noncomputable def rget_C0 (v0 : List UInt8) (v1 v2 : Int) (v3 : List UInt8) (v4 : List (List UInt8)) (v5 : List Node) (v6 : Int) (v7 : List UInt8) : ASt E := ASt.mk 30 [(1, .d (.str v0)), (2, .ptr 0 0), (4, .ptr 1 0), (6, .d (.int .i64 v1))] [(0, .box [.d (.int .i64 v2), .d (.str v3), .d (.slice .str v4), .d (.slice .api_Node v5)]), (1, .box [.d (.int .i64 v6), .d (.str v7), .d (.raw (.slice none 0 0)), .d (.raw (.slice none 0 0))])] 2
noncomputable def rget_t (G : Nat → ASt E → Option (List (TV E))) (x0 : Node) (x1 : List UInt8) : Option (List (TV E)) :=
  bif (x0.kind == (3 : Int)) then G 0 (rget_C0 x1 0 x0.kind x0.text x0.keys x0.kids 0 []) else some [⟨.api_Node, (⟨0, [], [], []⟩ : Node)⟩, ⟨.bool, false⟩]
theorem rget_e (G : Nat → ASt E → Option (List (TV E))) (x0 : Node) (x1 : List UInt8) : runE rget_O rget_H G Tryz.f102 [⟨.api_Node, x0⟩, ⟨.str, x1⟩] = rget_t G x0 x1 := by kernel_rfl
noncomputable def rget_t0 (G : Nat → ASt E → Option (List (TV E))) (v0 : List UInt8) (v1 v2 : Int) (v3 : List UInt8) (v4 : List (List UInt8)) (v5 : List Node) (v6 : Int) (v7 : List UInt8) : Option (List (TV E)) :=
  bif (decide (v1 < (v4.length : Int))) then (bif (decide ((0 : Int) ≤ v1) && decide (v1 < (v4.length : Int))) then (bif ((List.getD v4 (Int.toNat v1) (dflt .str)) == v0) then (bif (decide ((0 : Int) ≤ v1) && decide (v1 < (v5.length : Int))) then some [⟨.api_Node, (⟨(List.getD v5 (Int.toNat v1) (dflt .api_Node)).kind, (List.getD v5 (Int.toNat v1) (dflt .api_Node)).text, (List.getD v5 (Int.toNat v1) (dflt .api_Node)).keys, (List.getD v5 (Int.toNat v1) (dflt .api_Node)).kids⟩ : Node)⟩, ⟨.bool, true⟩] else none) else G 0 (rget_C0 v0 (w64 (v1 + (1 : Int))) v2 v3 v4 v5 v6 v7)) else none) else some [⟨.api_Node, (⟨0, [], [], []⟩ : Node)⟩, ⟨.bool, false⟩]
theorem rget_l0 (G : Nat → ASt E → Option (List (TV E))) (v0 : List UInt8) (v1 v2 : Int) (v3 : List UInt8) (v4 : List (List UInt8)) (v5 : List Node) (v6 : Int) (v7 : List UInt8) : runL rget_O rget_H G Tryz.f102 0 (rget_C0 v0 v1 v2 v3 v4 v5 v6 v7) = rget_t0 G v0 v1 v2 v3 v4 v5 v6 v7 := by kernel_rfl
theorem rget_f : Tryz.prog.funcs[102]? = some Tryz.f102 := by kernel_rfl
theorem rget_n : (Tryz.f102.name == "runtime.NumGoroutine") = false := by kernel_rfl
theorem rget_b : Tryz.f102.body.isNone = false := by kernel_rfl
theorem rget_hO : OracleOk E rget_O := orac_ok .nil .nil .nil .nil
theorem rget_s0 {res : List (TV E)} {v0 : List UInt8} {v1 v2 : Int} {v3 : List UInt8} {v4 : List (List UInt8)} {v5 : List Node} {v6 : Int} {v7 : List UInt8} (h : rget_t0 (Gr E Tryz.f102 res) v0 v1 v2 v3 v4 v5 v6 v7 = some res) : Ev E Tryz.f102 res 0 (rget_C0 v0 v1 v2 v3 v4 v5 v6 v7) := Ev.step rget_hO mix ((rget_l0 _ v0 v1 v2 v3 v4 v5 v6 v7).trans h)
theorem rget_ok_of (h : ∀ (x0 : Node) (x1 : List UInt8), (fun n _ => fit n) x0 x1 = true → rget_t (Gr E Tryz.f102 [⟨.api_Node, getV x0 x1⟩, ⟨.bool, getB x0 x1⟩]) x0 x1 = some [⟨.api_Node, getV x0 x1⟩, ⟨.bool, getB x0 x1⟩]) : FnOk E rget_id rget_W := fn22_ok rget_hO mix rget_f rget_n rget_b (fun x0 x1 hk => (rget_e _ x0 x1).trans (h x0 x1 hk))
theorem lk_drop (keys : List (List UInt8)) (kids : List Node) (k : List UInt8) (hl : keys.length = kids.length) (i : Nat) (hi : i < keys.length) : lk (keys.drop i) (kids.drop i) k = if k = keys[i] then some (kids[i]'(by omega)) else lk (keys.drop (i + 1)) (kids.drop (i + 1)) k := by
  rw [← List.getElem_cons_drop hi, ← List.getElem_cons_drop (show i < kids.length by omega)]
  rfl
theorem rget_loop (n : Node) (k : List UInt8) (hl : n.keys.length = n.kids.length) (hb : n.keys.length ≤ 1000000) (u0 : Int) (u1 : List UInt8) : ∀ (m i : Nat), n.keys.length - i = m → i ≤ n.keys.length →
    Ev E Tryz.f102 [⟨.api_Node, (lk (n.keys.drop i) (n.kids.drop i) k).getD zn⟩, ⟨.bool, (lk (n.keys.drop i) (n.kids.drop i) k).isSome⟩] 0 (rget_C0 k i n.kind n.text n.keys n.kids u0 u1) := by
  intro m
  induction m with
  | zero =>
    intro i h1 h2
    refine rget_s0 ?_
    simp only [rget_t0, dge (show n.keys.length ≤ i by omega), cond_false, List.drop_eq_nil_of_le (show n.keys.length ≤ i by omega)]
    rfl
  | succ m ih =>
    intro i h1 h2
    have hi : i < n.keys.length := by omega
    have hj : i < n.kids.length := by omega
    refine rget_s0 ?_
    simp only [rget_t0, dlt hi, dlt hj, d0, gd n.keys _ i hi, gd n.kids _ i hj, Bool.and_self, cond_true, node_eta]
    rw [lk_drop n.keys n.kids k hl i hi]
    by_cases e : k = n.keys[i]
    · rw [if_pos e, show (n.keys[i] == k) = true from by simp [e]]
      rfl
    · rw [if_neg e, show (n.keys[i] == k) = false from by simpa using fun h => e h.symm, cond_false, w64_id (by omega) (by omega)]
      exact Gr_of (ih (i + 1) (by omega) (by omega))
theorem rget_ok : FnOk E rget_id rget_W := rget_ok_of fun n k hk => by
  have hf := fit_iff.1 hk
  unfold getV getB get
  by_cases h : n.kind = 3
  · simp only [rget_t, eqT h, cond_true, if_pos h]
    have := Gr_of (rget_loop n k (hf.2 h) hf.1.1 0 [] n.keys.length 0 (by omega) (by omega))
    rw [List.drop_zero, List.drop_zero] at this
    exact this
  · simp only [rget_t, eqF h, cond_false, if_neg h]
    rfl
noncomputable def rnsame_W (n : Nat) : FnW E := fn2 (E := E) .api_Node .api_Node .bool (okS n) (same n)
def rnsame_id : FuncId := 12
noncomputable def rnsame_O (n : Nat) : Oracle E := orac [(43, rsame_W), (12, rnsame_W n)] [] [] []
noncomputable def rnsame_H : Hint E := Hint.mk [(0, [2, 3, 5])] [] [] [] []
noncomputable def rnsame_C0 (v0 v1 : Int) (v2 : List UInt8) (v3 : List (List UInt8)) (v4 : List Node) (v5 : Int) (v6 : List UInt8) (v7 : List (List UInt8)) (v8 : List Node) : ASt E := ASt.mk 54 [(2, .ptr 0 0), (3, .ptr 1 0), (5, .d (.int .i64 v0))] [(0, .box [.d (.int .i64 v1), .d (.str v2), .d (.slice .str v3), .d (.slice .api_Node v4)]), (1, .box [.d (.int .i64 v5), .d (.str v6), .d (.slice .str v7), .d (.slice .api_Node v8)])] 2
noncomputable def rnsame_t (_n : Nat) (G : Nat → ASt E → Option (List (TV E))) (x0 x1 : Node) : Option (List (TV E)) :=
  bif (((fun a _ => ln6 a) x0.keys x1.keys) || !(!(bif (x0.kind != x1.kind) then true else (!(x0.text == x1.text))))) then (bif (bif (bif (bif (x0.kind != x1.kind) then true else (!(x0.text == x1.text))) then true else (!(equal x0.keys x1.keys))) then true else ((x0.kids.length : Int) != (x1.kids.length : Int))) then some [⟨.bool, false⟩] else G 0 (rnsame_C0 0 x0.kind x0.text x0.keys x0.kids x1.kind x1.text x1.keys x1.kids)) else none
theorem rnsame_e (n : Nat) (G : Nat → ASt E → Option (List (TV E))) (x0 : Node) (x1 : Node) : runE (rnsame_O n) rnsame_H G Tryz.f12 [⟨.api_Node, x0⟩, ⟨.api_Node, x1⟩] = rnsame_t n G x0 x1 := by kernel_rfl
noncomputable def rnsame_t0 (n : Nat) (G : Nat → ASt E → Option (List (TV E))) (v0 v1 : Int) (v2 : List UInt8) (v3 : List (List UInt8)) (v4 : List Node) (v5 : Int) (v6 : List UInt8) (v7 : List (List UInt8)) (v8 : List Node) : Option (List (TV E)) :=
  bif (decide (v0 < (v4.length : Int))) then (bif (decide ((0 : Int) ≤ v0) && decide (v0 < (v4.length : Int))) then (bif (decide ((0 : Int) ≤ v0) && decide (v0 < (v8.length : Int))) then (bif ((okS n) (⟨(List.getD v4 (Int.toNat v0) (dflt .api_Node)).kind, (List.getD v4 (Int.toNat v0) (dflt .api_Node)).text, (List.getD v4 (Int.toNat v0) (dflt .api_Node)).keys, (List.getD v4 (Int.toNat v0) (dflt .api_Node)).kids⟩ : Node) (⟨(List.getD v8 (Int.toNat v0) (dflt .api_Node)).kind, (List.getD v8 (Int.toNat v0) (dflt .api_Node)).text, (List.getD v8 (Int.toNat v0) (dflt .api_Node)).keys, (List.getD v8 (Int.toNat v0) (dflt .api_Node)).kids⟩ : Node)) then (bif (!((same n) (⟨(List.getD v4 (Int.toNat v0) (dflt .api_Node)).kind, (List.getD v4 (Int.toNat v0) (dflt .api_Node)).text, (List.getD v4 (Int.toNat v0) (dflt .api_Node)).keys, (List.getD v4 (Int.toNat v0) (dflt .api_Node)).kids⟩ : Node) (⟨(List.getD v8 (Int.toNat v0) (dflt .api_Node)).kind, (List.getD v8 (Int.toNat v0) (dflt .api_Node)).text, (List.getD v8 (Int.toNat v0) (dflt .api_Node)).keys, (List.getD v8 (Int.toNat v0) (dflt .api_Node)).kids⟩ : Node))) then some [⟨.bool, false⟩] else G 0 (rnsame_C0 (w64 (v0 + (1 : Int))) v1 v2 v3 v4 v5 v6 v7 v8)) else none) else none) else none) else some [⟨.bool, true⟩]
theorem rnsame_l0 (n : Nat) (G : Nat → ASt E → Option (List (TV E))) (v0 v1 : Int) (v2 : List UInt8) (v3 : List (List UInt8)) (v4 : List Node) (v5 : Int) (v6 : List UInt8) (v7 : List (List UInt8)) (v8 : List Node) : runL (rnsame_O n) rnsame_H G Tryz.f12 0 (rnsame_C0 v0 v1 v2 v3 v4 v5 v6 v7 v8) = rnsame_t0 n G v0 v1 v2 v3 v4 v5 v6 v7 v8 := by kernel_rfl
theorem rnsame_f : Tryz.prog.funcs[12]? = some Tryz.f12 := by kernel_rfl
theorem rnsame_n : (Tryz.f12.name == "runtime.NumGoroutine") = false := by kernel_rfl
theorem rnsame_b : Tryz.f12.body.isNone = false := by kernel_rfl
theorem rnsame_ex : ∃ fn, Tryz.prog.funcs[12]? = some fn ∧ (fn.name == "runtime.NumGoroutine") = false ∧ fn.body.isNone = false := ⟨Tryz.f12, rnsame_f, rnsame_n, rnsame_b⟩
theorem rnsame_hO (n : Nat) (ih : FnOk E rnsame_id (rnsame_W n)) : OracleOk E (rnsame_O n) := orac_ok (.cons rsame_ok (.cons ih .nil)) .nil .nil .nil
theorem rnsame_s0 (n : Nat) (ih : FnOk E rnsame_id (rnsame_W n)) {res : List (TV E)} {v0 v1 : Int} {v2 : List UInt8} {v3 : List (List UInt8)} {v4 : List Node} {v5 : Int} {v6 : List UInt8} {v7 : List (List UInt8)} {v8 : List Node} (h : rnsame_t0 n (Gr E Tryz.f12 res) v0 v1 v2 v3 v4 v5 v6 v7 v8 = some res) : Ev E Tryz.f12 res 0 (rnsame_C0 v0 v1 v2 v3 v4 v5 v6 v7 v8) := Ev.step (rnsame_hO n ih) mix ((rnsame_l0 n _ v0 v1 v2 v3 v4 v5 v6 v7 v8).trans h)
theorem rnsame_ok_of (n : Nat) (ih : FnOk E rnsame_id (rnsame_W n)) (h : ∀ (x0 : Node) (x1 : Node), (okS (n + 1)) x0 x1 = true → rnsame_t n (Gr E Tryz.f12 [⟨.bool, (same (n + 1)) x0 x1⟩]) x0 x1 = some [⟨.bool, (same (n + 1)) x0 x1⟩]) : FnOk E rnsame_id (rnsame_W (n + 1)) := fn2_ok (rnsame_hO n ih) mix rnsame_f rnsame_n rnsame_b (fun x0 x1 hk => (rnsame_e n _ x0 x1).trans (h x0 x1 hk))
theorem rnsame_loop (n : Nat) (ih : FnOk E rnsame_id (rnsame_W n)) (x y : Node) (ha : x.kids.length ≤ 1000000) (hab : x.kids.length = y.kids.length) (hda : ∀ z ∈ x.kids, dp n z = true) (hdb : ∀ z ∈ y.kids, dp n z = true) : ∀ (m i : Nat), x.kids.length - i = m → i ≤ x.kids.length →
    Ev E Tryz.f12 [⟨.bool, sameW (same n) (x.kids.drop i) (y.kids.drop i)⟩] 0 (rnsame_C0 i x.kind x.text x.keys x.kids y.kind y.text y.keys y.kids) := by
  intro m
  induction m with
  | zero =>
    intro i h1 h2
    refine rnsame_s0 n ih ?_
    simp only [rnsame_t0, dge (show x.kids.length ≤ i by omega), cond_false, List.drop_eq_nil_of_le (show x.kids.length ≤ i by omega), List.drop_eq_nil_of_le (show y.kids.length ≤ i by omega)]
    rfl
  | succ m ih2 =>
    intro i h1 h2
    have hi : i < x.kids.length := by omega
    have hj : i < y.kids.length := by omega
    have hok : okS n x.kids[i] y.kids[i] = true := by simp only [okS, hda _ (List.getElem_mem hi), hdb _ (List.getElem_mem hj), Bool.and_self]
    refine rnsame_s0 n ih ?_
    simp only [rnsame_t0, dlt hi, dlt hj, d0, gd x.kids _ i hi, gd y.kids _ i hj, Bool.and_self, cond_true, node_eta, hok]
    rw [← List.getElem_cons_drop hi, ← List.getElem_cons_drop hj, w64_id (by omega) (by omega)]
    simp only [sameW]
    cases same n x.kids[i] y.kids[i] with
    | false => rfl
    | true =>
      simp only [Bool.not_true, cond_false, Bool.true_and]
      exact Gr_of (ih2 (i + 1) (by omega) (by omega))
theorem rnsame_ok (n : Nat) : FnOk E rnsame_id (rnsame_W n) := by
  induction n with
  | zero => exact fn2_bot rnsame_ex fun x y => rfl
  | succ n ih =>
    refine rnsame_ok_of n ih fun a b hk => ?_
    simp only [okS, Bool.and_eq_true] at hk
    obtain ⟨ha, ha2⟩ := dp_iff.1 hk.1
    obtain ⟨hb, hb2⟩ := dp_iff.1 hk.2
    have hl : ln6 a.keys = true := ln6_iff.2 ha.1
    simp only [rnsame_t, hl, Bool.true_or, cond_true, same, equal]
    by_cases h1 : a.kind = b.kind
    · rw [neF h1, eqT h1]
      cases a.text == b.text with
      | false => rfl
      | true =>
        cases a.keys == b.keys with
        | false => rfl
        | true =>
          simp only [Bool.not_true, cond_false, Bool.true_and]
          by_cases hlen : a.kids.length = b.kids.length
          · rw [neF (by omega), cond_false]
            have := Gr_of (rnsame_loop n ih a b ha.2 hlen ha2 hb2 a.kids.length 0 (by omega) (by omega))
            rw [List.drop_zero, List.drop_zero] at this
            exact this
          · rw [neT (by omega), cond_true, sameW_len hlen]
    · rw [neT h1, eqF h1]
      rfl
def sortN : Nat → Node → Node
  | 0, x => x
  | n + 1, x => bif x.kind == 3 then ⟨x.kind, x.text, Pl.sortD x.keys, (Pl.sortD x.keys).map fun k => sortN n (getV x k)⟩ else ⟨x.kind, x.text, [], x.kids.map (sortN n)⟩
noncomputable def rnsorted_W (n : Nat) : FnW E := fn1 (E := E) .api_Node .api_Node (wg 10000 n) (sortN n)
def rnsorted_id : FuncId := 140
noncomputable def rnsorted_O (n : Nat) : Oracle E := orac [(13, rsorted_W), (102, rget_W), (140, rnsorted_W n)] [] [] []
noncomputable def rnsorted_H : Hint E := Hint.mk [(0, [1, 2, 3, 4, 5]), (1, [1, 2, 3, 8])] [] [(0, [(3, some 2, true, .str), (3, some 3, true, .api_Node)]), (1, [(3, some 3, true, .api_Node)])] [] []
noncomputable def rnsorted_C0 (v0 : List (List UInt8)) (v1 v2 : Int) (v3 : List UInt8) (v4 : List (List UInt8)) (v5 : List Node) (v6 : Int) (v7 : List UInt8) (v8 : Int) (v9 : List UInt8) (v10 : List (List UInt8)) (v11 : List Node) : ASt E := ASt.mk 71 [(1, .ptr 0 0), (2, .ptr 1 0), (3, .ptr 2 0), (4, .d (.slice .str v0)), (5, .d (.int .i64 v1))] [(0, .box [.d (.int .i64 v2), .d (.str v3), .d (.slice .str v4), .d (.slice .api_Node v5)]), (1, .box [.d (.int .i64 v6), .d (.str v7), .d (.raw (.slice none 0 0)), .d (.raw (.slice none 0 0))]), (2, .box [.d (.int .i64 v8), .d (.str v9), .grow .str v10 3, .grow .api_Node v11 4]), (3, .tail true), (4, .tail true)] 5
noncomputable def rnsorted_C1 (v0 v1 : Int) (v2 : List UInt8) (v3 : List (List UInt8)) (v4 : List Node) (v5 : Int) (v6 : List UInt8) (v7 : Int) (v8 : List UInt8) (v9 : List Node) : ASt E := ASt.mk 71 [(1, .ptr 0 0), (2, .ptr 1 0), (3, .ptr 2 0), (8, .d (.int .i64 v0))] [(0, .box [.d (.int .i64 v1), .d (.str v2), .d (.slice .str v3), .d (.slice .api_Node v4)]), (1, .box [.d (.int .i64 v5), .d (.str v6), .d (.raw (.slice none 0 0)), .d (.raw (.slice none 0 0))]), (2, .box [.d (.int .i64 v7), .d (.str v8), .d (.raw (.slice none 0 0)), .grow .api_Node v9 3]), (3, .tail true)] 4
noncomputable def rnsorted_t (_n : Nat) (G : Nat → ASt E → Option (List (TV E))) (x0 : Node) : Option (List (TV E)) :=
  bif (x0.kind == (3 : Int)) then (bif (ln6 x0.keys) then G 0 (rnsorted_C0 (Pl.sortD x0.keys) 0 x0.kind x0.text x0.keys x0.kids 0 [] x0.kind x0.text [] []) else none) else G 1 (rnsorted_C1 0 x0.kind x0.text x0.keys x0.kids 0 [] x0.kind x0.text [])
theorem rnsorted_e (n : Nat) (G : Nat → ASt E → Option (List (TV E))) (x0 : Node) : runE (rnsorted_O n) rnsorted_H G Tryz.f140 [⟨.api_Node, x0⟩] = rnsorted_t n G x0 := by kernel_rfl
noncomputable def rnsorted_t0 (n : Nat) (G : Nat → ASt E → Option (List (TV E))) (v0 : List (List UInt8)) (v1 v2 : Int) (v3 : List UInt8) (v4 : List (List UInt8)) (v5 : List Node) (v6 : Int) (v7 : List UInt8) (v8 : Int) (v9 : List UInt8) (v10 : List (List UInt8)) (v11 : List Node) : Option (List (TV E)) :=
  bif (decide (v1 < (v0.length : Int))) then (bif (decide ((0 : Int) ≤ v1) && decide (v1 < (v0.length : Int))) then (bif ((fun n _ => fit n) (⟨v2, v3, v4, v5⟩ : Node) (List.getD v0 (Int.toNat v1) (dflt .str))) then (bif (decide ((0 : Int) ≤ v1) && decide (v1 < (v0.length : Int))) then (bif (decide ((v10.length + ([(List.getD v0 (Int.toNat v1) (dflt .str))] : List (List UInt8)).length) * 16 ≤ maxBytes)) then (bif ((wg 10000 n) (⟨(getV ⟨v2, v3, v4, v5⟩ (List.getD v0 (Int.toNat v1) (dflt .str))).kind, (getV ⟨v2, v3, v4, v5⟩ (List.getD v0 (Int.toNat v1) (dflt .str))).text, (getV ⟨v2, v3, v4, v5⟩ (List.getD v0 (Int.toNat v1) (dflt .str))).keys, (getV ⟨v2, v3, v4, v5⟩ (List.getD v0 (Int.toNat v1) (dflt .str))).kids⟩ : Node)) then (bif (decide ((v11.length + ([((sortN n) (⟨(getV ⟨v2, v3, v4, v5⟩ (List.getD v0 (Int.toNat v1) (dflt .str))).kind, (getV ⟨v2, v3, v4, v5⟩ (List.getD v0 (Int.toNat v1) (dflt .str))).text, (getV ⟨v2, v3, v4, v5⟩ (List.getD v0 (Int.toNat v1) (dflt .str))).keys, (getV ⟨v2, v3, v4, v5⟩ (List.getD v0 (Int.toNat v1) (dflt .str))).kids⟩ : Node))] : List Node).length) * 72 ≤ maxBytes)) then G 0 (rnsorted_C0 v0 (w64 (v1 + (1 : Int))) v2 v3 v4 v5 v6 v7 v8 v9 (v10 ++ ([(List.getD v0 (Int.toNat v1) (dflt .str))] : List (List UInt8))) (v11 ++ ([((sortN n) (⟨(getV ⟨v2, v3, v4, v5⟩ (List.getD v0 (Int.toNat v1) (dflt .str))).kind, (getV ⟨v2, v3, v4, v5⟩ (List.getD v0 (Int.toNat v1) (dflt .str))).text, (getV ⟨v2, v3, v4, v5⟩ (List.getD v0 (Int.toNat v1) (dflt .str))).keys, (getV ⟨v2, v3, v4, v5⟩ (List.getD v0 (Int.toNat v1) (dflt .str))).kids⟩ : Node))] : List Node))) else none) else none) else none) else none) else none) else none) else some [⟨.api_Node, (⟨v8, v9, v10, v11⟩ : Node)⟩]
theorem rnsorted_l0 (n : Nat) (G : Nat → ASt E → Option (List (TV E))) (v0 : List (List UInt8)) (v1 v2 : Int) (v3 : List UInt8) (v4 : List (List UInt8)) (v5 : List Node) (v6 : Int) (v7 : List UInt8) (v8 : Int) (v9 : List UInt8) (v10 : List (List UInt8)) (v11 : List Node) : runL (rnsorted_O n) rnsorted_H G Tryz.f140 0 (rnsorted_C0 v0 v1 v2 v3 v4 v5 v6 v7 v8 v9 v10 v11) = rnsorted_t0 n G v0 v1 v2 v3 v4 v5 v6 v7 v8 v9 v10 v11 := by kernel_rfl
noncomputable def rnsorted_t1 (n : Nat) (G : Nat → ASt E → Option (List (TV E))) (v0 v1 : Int) (v2 : List UInt8) (v3 : List (List UInt8)) (v4 : List Node) (v5 : Int) (v6 : List UInt8) (v7 : Int) (v8 : List UInt8) (v9 : List Node) : Option (List (TV E)) :=
  bif (decide (v0 < (v4.length : Int))) then (bif (decide ((0 : Int) ≤ v0) && decide (v0 < (v4.length : Int))) then (bif ((wg 10000 n) (⟨(List.getD v4 (Int.toNat v0) (dflt .api_Node)).kind, (List.getD v4 (Int.toNat v0) (dflt .api_Node)).text, (List.getD v4 (Int.toNat v0) (dflt .api_Node)).keys, (List.getD v4 (Int.toNat v0) (dflt .api_Node)).kids⟩ : Node)) then (bif (decide ((v9.length + ([((sortN n) (⟨(List.getD v4 (Int.toNat v0) (dflt .api_Node)).kind, (List.getD v4 (Int.toNat v0) (dflt .api_Node)).text, (List.getD v4 (Int.toNat v0) (dflt .api_Node)).keys, (List.getD v4 (Int.toNat v0) (dflt .api_Node)).kids⟩ : Node))] : List Node).length) * 72 ≤ maxBytes)) then G 1 (rnsorted_C1 (w64 (v0 + (1 : Int))) v1 v2 v3 v4 v5 v6 v7 v8 (v9 ++ ([((sortN n) (⟨(List.getD v4 (Int.toNat v0) (dflt .api_Node)).kind, (List.getD v4 (Int.toNat v0) (dflt .api_Node)).text, (List.getD v4 (Int.toNat v0) (dflt .api_Node)).keys, (List.getD v4 (Int.toNat v0) (dflt .api_Node)).kids⟩ : Node))] : List Node))) else none) else none) else none) else some [⟨.api_Node, (⟨v7, v8, [], v9⟩ : Node)⟩]
theorem rnsorted_l1 (n : Nat) (G : Nat → ASt E → Option (List (TV E))) (v0 v1 : Int) (v2 : List UInt8) (v3 : List (List UInt8)) (v4 : List Node) (v5 : Int) (v6 : List UInt8) (v7 : Int) (v8 : List UInt8) (v9 : List Node) : runL (rnsorted_O n) rnsorted_H G Tryz.f140 1 (rnsorted_C1 v0 v1 v2 v3 v4 v5 v6 v7 v8 v9) = rnsorted_t1 n G v0 v1 v2 v3 v4 v5 v6 v7 v8 v9 := by kernel_rfl
theorem rnsorted_f : Tryz.prog.funcs[140]? = some Tryz.f140 := by kernel_rfl
theorem rnsorted_n : (Tryz.f140.name == "runtime.NumGoroutine") = false := by kernel_rfl
theorem rnsorted_b : Tryz.f140.body.isNone = false := by kernel_rfl
theorem rnsorted_ex : ∃ fn, Tryz.prog.funcs[140]? = some fn ∧ (fn.name == "runtime.NumGoroutine") = false ∧ fn.body.isNone = false := ⟨Tryz.f140, rnsorted_f, rnsorted_n, rnsorted_b⟩
theorem rnsorted_hO (n : Nat) (ih : FnOk E rnsorted_id (rnsorted_W n)) : OracleOk E (rnsorted_O n) := orac_ok (.cons rsorted_ok (.cons rget_ok (.cons ih .nil))) .nil .nil .nil
theorem rnsorted_s0 (n : Nat) (ih : FnOk E rnsorted_id (rnsorted_W n)) {res : List (TV E)} {v0 : List (List UInt8)} {v1 v2 : Int} {v3 : List UInt8} {v4 : List (List UInt8)} {v5 : List Node} {v6 : Int} {v7 : List UInt8} {v8 : Int} {v9 : List UInt8} {v10 : List (List UInt8)} {v11 : List Node} (h : rnsorted_t0 n (Gr E Tryz.f140 res) v0 v1 v2 v3 v4 v5 v6 v7 v8 v9 v10 v11 = some res) : Ev E Tryz.f140 res 0 (rnsorted_C0 v0 v1 v2 v3 v4 v5 v6 v7 v8 v9 v10 v11) := Ev.step (rnsorted_hO n ih) mix ((rnsorted_l0 n _ v0 v1 v2 v3 v4 v5 v6 v7 v8 v9 v10 v11).trans h)
theorem rnsorted_s1 (n : Nat) (ih : FnOk E rnsorted_id (rnsorted_W n)) {res : List (TV E)} {v0 v1 : Int} {v2 : List UInt8} {v3 : List (List UInt8)} {v4 : List Node} {v5 : Int} {v6 : List UInt8} {v7 : Int} {v8 : List UInt8} {v9 : List Node} (h : rnsorted_t1 n (Gr E Tryz.f140 res) v0 v1 v2 v3 v4 v5 v6 v7 v8 v9 = some res) : Ev E Tryz.f140 res 1 (rnsorted_C1 v0 v1 v2 v3 v4 v5 v6 v7 v8 v9) := Ev.step (rnsorted_hO n ih) mix ((rnsorted_l1 n _ v0 v1 v2 v3 v4 v5 v6 v7 v8 v9).trans h)
theorem rnsorted_ok_of (n : Nat) (ih : FnOk E rnsorted_id (rnsorted_W n)) (h : ∀ (x0 : Node), (wg 10000 (n + 1)) x0 = true → rnsorted_t n (Gr E Tryz.f140 [⟨.api_Node, (sortN (n + 1)) x0⟩]) x0 = some [⟨.api_Node, (sortN (n + 1)) x0⟩]) : FnOk E rnsorted_id (rnsorted_W (n + 1)) := fn1_ok (rnsorted_hO n ih) mix rnsorted_f rnsorted_n rnsorted_b (fun x0 hk => (rnsorted_e n _ x0).trans (h x0 hk))
theorem rnsorted_0 (n : Nat) (ih : FnOk E rnsorted_id (rnsorted_W n)) (x : Node) (hx : wg 10000 (n + 1) x = true) (h3 : x.kind = 3) (ks : List (List UInt8)) (hks : ks.length ≤ 10000) (hm : ∀ k ∈ ks, k ∈ x.keys) (u0 : Int) (u1 : List UInt8) (v0 : Int) (v1 : List UInt8) :
    ∀ (m i : Nat) (ok : List (List UInt8)) (ov : List Node), ks.length - i = m → i ≤ ks.length → ok.length = i → ov.length = i →
      Ev E Tryz.f140 [⟨.api_Node, (⟨v0, v1, ok ++ ks.drop i, ov ++ (ks.drop i).map fun k => sortN n (getV x k)⟩ : Node)⟩] 0 (rnsorted_C0 ks i x.kind x.text x.keys x.kids u0 u1 v0 v1 ok ov) := by
  have fx := wg_fit hx (by decide)
  intro m
  induction m with
  | zero =>
    intro i ok ov h1 h2 h3 h4
    refine rnsorted_s0 n ih ?_
    simp only [rnsorted_t0, dge (show ks.length ≤ i by omega), cond_false, List.drop_eq_nil_of_le (show ks.length ≤ i by omega), List.append_nil, List.map_nil]
  | succ m ih2 =>
    intro i ok ov h1 h2 h3' h4
    have hi : i < ks.length := by omega
    have e1 : decide ((ok.length + [ks[i]].length) * 16 ≤ maxBytes) = true := dT (by rw [mb, List.length_singleton]; omega)
    have e2 : ∀ v : Node, decide ((ov.length + [v].length) * 72 ≤ maxBytes) = true := fun v => dT (by rw [mb, List.length_singleton]; omega)
    have hw : wg 10000 n (getV x ks[i]) = true := wg_get hx (getB_g hx h3 (hm _ (List.getElem_mem hi)))
    refine rnsorted_s0 n ih ?_
    simp only [rnsorted_t0, dlt hi, d0, gd ks _ i hi, Bool.and_self, cond_true, node_eta, fx, e1, e2, hw]
    rw [← List.getElem_cons_drop hi, w64_id (by omega) (by omega)]
    have := Gr_of (ih2 (i + 1) (ok ++ [ks[i]]) (ov ++ [sortN n (getV x ks[i])]) (by omega) (by omega) (by simp [h3']) (by simp [h4]))
    rw [List.append_assoc, List.append_assoc] at this
    exact this
theorem rnsorted_1 (n : Nat) (ih : FnOk E rnsorted_id (rnsorted_W n)) (x : Node) (hx : wg 10000 (n + 1) x = true) (u0 : Int) (u1 : List UInt8) (v0 : Int) (v1 : List UInt8) :
    ∀ (m i : Nat) (ov : List Node), x.kids.length - i = m → i ≤ x.kids.length → ov.length = i →
      Ev E Tryz.f140 [⟨.api_Node, (⟨v0, v1, [], ov ++ (x.kids.drop i).map (sortN n)⟩ : Node)⟩] 1 (rnsorted_C1 i x.kind x.text x.keys x.kids u0 u1 v0 v1 ov) := by
  have hw := wg_iff.1 hx
  intro m
  induction m with
  | zero =>
    intro i ov h1 h2 h3
    refine rnsorted_s1 n ih ?_
    simp only [rnsorted_t1, dge (show x.kids.length ≤ i by omega), cond_false, List.drop_eq_nil_of_le (show x.kids.length ≤ i by omega), List.append_nil, List.map_nil]
  | succ m ih2 =>
    intro i ov h1 h2 h3
    have hi : i < x.kids.length := by omega
    have e2 : ∀ v : Node, decide ((ov.length + [v].length) * 72 ≤ maxBytes) = true := fun v => dT (by rw [mb, List.length_singleton]; omega)
    have hk : wg 10000 n x.kids[i] = true := hw.2.2.2 _ (List.getElem_mem hi)
    refine rnsorted_s1 n ih ?_
    simp only [rnsorted_t1, dlt hi, d0, gd x.kids _ i hi, Bool.and_self, cond_true, node_eta, e2, hk]
    rw [← List.getElem_cons_drop hi, w64_id (by omega) (by omega)]
    have := Gr_of (ih2 (i + 1) (ov ++ [sortN n x.kids[i]]) (by omega) (by omega) (by simp [h3]))
    rw [List.append_assoc] at this
    exact this
theorem rnsorted_ok (n : Nat) : FnOk E rnsorted_id (rnsorted_W n) := by
  induction n with
  | zero => exact fn1_bot rnsorted_ex fun x => rfl
  | succ n ih =>
    refine rnsorted_ok_of n ih fun x hk => ?_
    have hw := wg_iff.1 hk
    simp only [rnsorted_t, sortN]
    by_cases h3 : x.kind = 3
    · have hl : ln6 x.keys = true := ln6_iff.2 (by omega)
      have hs := Pl.sortD_len x.keys
      rw [eqT h3, cond_true, hl, cond_true, cond_true]
      have := Gr_of (rnsorted_0 n ih x hk h3 (Pl.sortD x.keys) (by omega) (fun k hk => Pl.sortD_mem.1 hk) 0 [] x.kind x.text _ 0 [] [] rfl (Nat.zero_le _) rfl rfl)
      rw [List.drop_zero, List.nil_append, List.nil_append] at this
      exact this
    · rw [eqF h3, cond_false, cond_false]
      have := Gr_of (rnsorted_1 n ih x hk 0 [] x.kind x.text _ 0 [] rfl (Nat.zero_le _) rfl)
      rw [List.drop_zero, List.nil_append] at this
      exact this
def kidsV (g : Node → Int → Int) : List Node → Int → Int
  | [], l => l
  | k :: t, l => bif decide (g k l < 0) then -1 else kidsV g t (g k l)
def badA (x : Node) (deep l : Int) : Bool := bif (bif (bif decide (l < 0) then true else decide (12 < deep)) then true else decide (x.kind < 0)) then true else decide (3 < x.kind)
def badB (x : Node) : Bool := bif (bif (bif x.kind != 1 then decide ((0 : Int) < (x.text.length : Int)) else false) then true else (bif x.kind != 3 then decide ((0 : Int) < (x.keys.length : Int)) else false)) then true else (bif decide (x.kind < 2) then decide ((0 : Int) < (x.kids.length : Int)) else false)
def badC (x : Node) (l : Int) : Bool := bif x.kind == 3 then (bif (bif (x.keys.length : Int) != (x.kids.length : Int) then true else decide (l < (x.kids.length : Int))) then true else ((Pl.sortD x.keys).length : Int) != (x.keys.length : Int)) else false
def leftV : Nat → Node → Int → Int → Int
  | 0, _, _, _ => -1
  | n + 1, x, deep, left => bif badA x deep (left - 1) then -1 else bif badB x then -1 else bif badC x (left - 1) then -1 else kidsV (fun k l => leftV n k (deep + 1) l) x.kids (left - 1)
theorem kidsV_le {g : Node → Int → Int} (hg : ∀ k l, 0 ≤ g k l → g k l + 1 ≤ l) : ∀ (ks : List Node) (l : Int), 0 ≤ kidsV g ks l → kidsV g ks l + ks.length ≤ l ∧ ∀ k ∈ ks, ∃ l', 0 ≤ g k l' ∧ l' ≤ l
  | [], l, _ => ⟨by simp [kidsV], fun k hk => by cases hk⟩
  | k :: t, l, h => by
    unfold kidsV at h ⊢
    by_cases hk : g k l < 0
    · rw [dT hk, cond_true] at h
      omega
    · rw [dF hk, cond_false] at h ⊢
      obtain ⟨h1, h2⟩ := kidsV_le hg t (g k l) h
      have h3 := hg k l (by omega)
      refine ⟨by rw [List.length_cons]; omega, fun y hy => ?_⟩
      rcases List.mem_cons.1 hy with rfl | hy
      · exact ⟨l, by omega, Int.le_refl _⟩
      · obtain ⟨l', h4, h5⟩ := h2 y hy
        exact ⟨l', h4, by omega⟩
theorem leftV_le : ∀ (n : Nat) (x : Node) (d l : Int), 0 ≤ leftV n x d l → leftV n x d l + 1 ≤ l
  | 0, _, _, _, h => by simp [leftV] at h
  | n + 1, x, d, l, h => by
    unfold leftV at h ⊢
    cases h1 : badA x d (l - 1) with
    | true => rw [h1, cond_true] at h; omega
    | false =>
      cases h2 : badB x with
      | true => rw [h1, h2, cond_false, cond_true] at h; omega
      | false =>
        cases h3 : badC x (l - 1) with
        | true => rw [h1, h2, h3, cond_false, cond_false, cond_true] at h; omega
        | false =>
          rw [h1, h2, h3, cond_false, cond_false, cond_false] at h
          simp only [cond_false]
          have := (kidsV_le (fun k l h => leftV_le n k (d + 1) l h) x.kids (l - 1) h).1
          omega
def okL (n : Nat) (_ : Node) (deep left : Int) : Bool := decide (1 ≤ n) && decide (n ≤ 13) && decide (deep + n = 14) && decide (-10 ≤ left) && decide (left ≤ 100000)
theorem okL_iff {n : Nat} {x : Node} {d l : Int} : okL n x d l = true ↔ (((1 ≤ n ∧ n ≤ 13) ∧ d + n = 14) ∧ -10 ≤ l) ∧ l ≤ 100000 := by simp [okL]
noncomputable def left_W (n : Nat) : FnW E := fn3 (E := E) .api_Node .int .int .int (okL n) (leftV n)
def left_id : FuncId := 7
noncomputable def left_O (n : Nat) : Oracle E := orac [(13, rsorted_W), (7, left_W n)] [] [] []
noncomputable def left_H : Hint E := Hint.mk [(0, [1, 2, 3, 7])] [] [] [] []
noncomputable def left_C0 (v0 v1 v2 v3 : Int) (v4 : List UInt8) (v5 : List (List UInt8)) (v6 : List Node) : ASt E := ASt.mk 105 [(1, .d (.int .i64 v0)), (2, .d (.int .i64 v1)), (3, .ptr 0 0), (7, .d (.int .i64 v2))] [(0, .box [.d (.int .i64 v3), .d (.str v4), .d (.slice .str v5), .d (.slice .api_Node v6)])] 1
noncomputable def left_t (_n : Nat) (G : Nat → ASt E → Option (List (TV E))) (x0 : Node) (x1 x2 : Int) : Option (List (TV E)) :=
  bif (bif (bif (bif (decide ((w64 (x2 - (1 : Int))) < (0 : Int))) then true else (decide ((12 : Int) < x1))) then true else (decide (x0.kind < (0 : Int)))) then true else (decide ((3 : Int) < x0.kind))) then some [⟨.int, (-1 : Int)⟩] else (bif (bif (bif (bif (x0.kind != (1 : Int)) then (decide ((0 : Int) < (x0.text.length : Int))) else false) then true else (bif (x0.kind != (3 : Int)) then (decide ((0 : Int) < (x0.keys.length : Int))) else false)) then true else (bif (decide (x0.kind < (2 : Int))) then (decide ((0 : Int) < (x0.kids.length : Int))) else false)) then some [⟨.int, (-1 : Int)⟩] else (bif ((ln6 x0.keys) || !((x0.kind == (3 : Int)) && (!(bif ((x0.keys.length : Int) != (x0.kids.length : Int)) then true else (decide ((w64 (x2 - (1 : Int))) < (x0.kids.length : Int))))))) then (bif (bif (x0.kind == (3 : Int)) then (bif (bif ((x0.keys.length : Int) != (x0.kids.length : Int)) then true else (decide ((w64 (x2 - (1 : Int))) < (x0.kids.length : Int)))) then true else (((Pl.sortD x0.keys).length : Int) != (x0.keys.length : Int))) else false) then some [⟨.int, (-1 : Int)⟩] else G 0 (left_C0 x1 (w64 (x2 - (1 : Int))) 0 x0.kind x0.text x0.keys x0.kids)) else none))
theorem left_e (n : Nat) (G : Nat → ASt E → Option (List (TV E))) (x0 : Node) (x1 : Int) (x2 : Int) : runE (left_O n) left_H G Tryz.f7 [⟨.api_Node, x0⟩, ⟨.int, x1⟩, ⟨.int, x2⟩] = left_t n G x0 x1 x2 := by kernel_rfl
noncomputable def left_t0 (n : Nat) (G : Nat → ASt E → Option (List (TV E))) (v0 v1 v2 v3 : Int) (v4 : List UInt8) (v5 : List (List UInt8)) (v6 : List Node) : Option (List (TV E)) :=
  bif (decide (v2 < (v6.length : Int))) then (bif (decide ((0 : Int) ≤ v2) && decide (v2 < (v6.length : Int))) then (bif ((okL n) (⟨(List.getD v6 (Int.toNat v2) (dflt .api_Node)).kind, (List.getD v6 (Int.toNat v2) (dflt .api_Node)).text, (List.getD v6 (Int.toNat v2) (dflt .api_Node)).keys, (List.getD v6 (Int.toNat v2) (dflt .api_Node)).kids⟩ : Node) (w64 (v0 + (1 : Int))) v1) then (bif (decide (((leftV n) (⟨(List.getD v6 (Int.toNat v2) (dflt .api_Node)).kind, (List.getD v6 (Int.toNat v2) (dflt .api_Node)).text, (List.getD v6 (Int.toNat v2) (dflt .api_Node)).keys, (List.getD v6 (Int.toNat v2) (dflt .api_Node)).kids⟩ : Node) (w64 (v0 + (1 : Int))) v1) < (0 : Int))) then some [⟨.int, (-1 : Int)⟩] else G 0 (left_C0 v0 ((leftV n) (⟨(List.getD v6 (Int.toNat v2) (dflt .api_Node)).kind, (List.getD v6 (Int.toNat v2) (dflt .api_Node)).text, (List.getD v6 (Int.toNat v2) (dflt .api_Node)).keys, (List.getD v6 (Int.toNat v2) (dflt .api_Node)).kids⟩ : Node) (w64 (v0 + (1 : Int))) v1) (w64 (v2 + (1 : Int))) v3 v4 v5 v6)) else none) else none) else some [⟨.int, v1⟩]
theorem left_l0 (n : Nat) (G : Nat → ASt E → Option (List (TV E))) (v0 v1 v2 v3 : Int) (v4 : List UInt8) (v5 : List (List UInt8)) (v6 : List Node) : runL (left_O n) left_H G Tryz.f7 0 (left_C0 v0 v1 v2 v3 v4 v5 v6) = left_t0 n G v0 v1 v2 v3 v4 v5 v6 := by kernel_rfl
theorem left_f : Tryz.prog.funcs[7]? = some Tryz.f7 := by kernel_rfl
theorem left_n : (Tryz.f7.name == "runtime.NumGoroutine") = false := by kernel_rfl
theorem left_b : Tryz.f7.body.isNone = false := by kernel_rfl
theorem left_ex : ∃ fn, Tryz.prog.funcs[7]? = some fn ∧ (fn.name == "runtime.NumGoroutine") = false ∧ fn.body.isNone = false := ⟨Tryz.f7, left_f, left_n, left_b⟩
theorem left_hO (n : Nat) (ih : FnOk E left_id (left_W n)) : OracleOk E (left_O n) := orac_ok (.cons rsorted_ok (.cons ih .nil)) .nil .nil .nil
theorem left_s0 (n : Nat) (ih : FnOk E left_id (left_W n)) {res : List (TV E)} {v0 v1 v2 v3 : Int} {v4 : List UInt8} {v5 : List (List UInt8)} {v6 : List Node} (h : left_t0 n (Gr E Tryz.f7 res) v0 v1 v2 v3 v4 v5 v6 = some res) : Ev E Tryz.f7 res 0 (left_C0 v0 v1 v2 v3 v4 v5 v6) := Ev.step (left_hO n ih) mix ((left_l0 n _ v0 v1 v2 v3 v4 v5 v6).trans h)
theorem left_ok_of (n : Nat) (ih : FnOk E left_id (left_W n)) (h : ∀ (x0 : Node) (x1 : Int) (x2 : Int), (okL (n + 1)) x0 x1 x2 = true → left_t n (Gr E Tryz.f7 [⟨.int, (leftV (n + 1)) x0 x1 x2⟩]) x0 x1 x2 = some [⟨.int, (leftV (n + 1)) x0 x1 x2⟩]) : FnOk E left_id (left_W (n + 1)) := fn3_ok (left_hO n ih) mix left_f left_n left_b (fun x0 x1 x2 hk => (left_e n _ x0 x1 x2).trans (h x0 x1 x2 hk))
theorem left_loop (n : Nat) (ih : FnOk E left_id (left_W n)) (x : Node) (d : Int) (hn1 : 1 ≤ n) (hn2 : n ≤ 12) (hd : d + 1 + n = 14) : ∀ (m i : Nat) (l : Int), x.kids.length - i = m → i ≤ x.kids.length → 0 ≤ l → l + i ≤ 100000 →
    Ev E Tryz.f7 [⟨.int, kidsV (fun k l => leftV n k (d + 1) l) (x.kids.drop i) l⟩] 0 (left_C0 d l i x.kind x.text x.keys x.kids) := by
  intro m
  induction m with
  | zero =>
    intro i l h1 h2 h3 h4
    refine left_s0 n ih ?_
    simp only [left_t0, dge (show x.kids.length ≤ i by omega), cond_false, List.drop_eq_nil_of_le (show x.kids.length ≤ i by omega)]
    rfl
  | succ m ih2 =>
    intro i l h1 h2 h3 h4
    have hi : i < x.kids.length := by omega
    have e1 : w64 (d + 1) = d + 1 := w64_id (by omega) (by omega)
    have e2 : okL n x.kids[i] (d + 1) l = true := okL_iff.2 ⟨⟨⟨⟨hn1, by omega⟩, by omega⟩, by omega⟩, by omega⟩
    have hle := leftV_le n x.kids[i] (d + 1) l
    refine left_s0 n ih ?_
    simp only [left_t0, dlt hi, d0, gd x.kids _ i hi, Bool.and_self, cond_true, node_eta, e1, e2]
    rw [← List.getElem_cons_drop hi]
    simp only [kidsV]
    by_cases hk : leftV n x.kids[i] (d + 1) l < 0
    · rw [dT hk]; rfl
    · rw [dF hk, cond_false, cond_false, w64_id (by omega) (by omega)]
      exact Gr_of (ih2 (i + 1) _ (by omega) (by omega) (by omega) (by have := hle (by omega); omega))
theorem left_ok (n : Nat) : FnOk E left_id (left_W n) := by
  induction n with
  | zero => exact fn3_bot left_ex fun x y z => by simp [okL]
  | succ n ih =>
    refine left_ok_of n ih fun x d l hk => ?_
    have hk := okL_iff.1 hk
    have e1 : w64 (l - 1) = l - 1 := w64_id (by omega) (by omega)
    simp only [left_t, e1, leftV]
    change (bif badA x d (l - 1) then _ else bif badB x then _ else _) = _
    cases h1 : badA x d (l - 1) with
    | true => rfl
    | false =>
      cases h2 : badB x with
      | true => rfl
      | false =>
        simp only [cond_false]
        have hA : ¬ l - 1 < 0 ∧ ¬ 12 < d := by
          unfold badA at h1
          by_cases a1 : l - 1 < 0
          · rw [dT a1] at h1; cases h1
          · by_cases a2 : 12 < d
            · rw [dF a1, dT a2] at h1; cases h1
            · exact ⟨a1, a2⟩
        have hcond : (ln6 x.keys || !(x.kind == 3 && !(bif (x.keys.length : Int) != (x.kids.length : Int) then true else decide (l - 1 < (x.kids.length : Int))))) = true := by
          by_cases a1 : (x.keys.length : Int) = x.kids.length
          · by_cases a2 : l - 1 < (x.kids.length : Int)
            · rw [neF a1, dT a2]; simp
            · rw [ln6_iff.2 (by omega)]; rfl
          · rw [neT a1]; simp
        rw [hcond, cond_true]
        change (bif badC x (l - 1) then _ else _) = _
        cases h3 : badC x (l - 1) with
        | true => rfl
        | false =>
          simp only [cond_false]
          have := Gr_of (left_loop n ih x d (by omega) (by omega) (by omega) x.kids.length 0 (l - 1) (by omega) (by omega) (by omega) (by omega))
          rw [List.drop_zero] at this
          exact this
def shortV : Nat → Node → Bool
  | 0, _ => false
  | n + 1, x => decide (x.text.length ≤ 200) && (x.keys.all (fun k => decide (k.length ≤ 200)) && x.kids.all (shortV n))
noncomputable def short_W (n : Nat) : FnW E := fn1 (E := E) .api_Node .bool (dp n) (shortV n)
def short_id : FuncId := 8
noncomputable def short_O (n : Nat) : Oracle E := orac [(8, short_W n)] [] [] []
noncomputable def short_H : Hint E := Hint.mk [(0, [1, 3]), (1, [1, 4])] [] [] [] []
noncomputable def short_C0 (v0 v1 : Int) (v2 : List UInt8) (v3 : List (List UInt8)) (v4 : List Node) : ASt E := ASt.mk 37 [(1, .ptr 0 0), (3, .d (.int .i64 v0))] [(0, .box [.d (.int .i64 v1), .d (.str v2), .d (.slice .str v3), .d (.slice .api_Node v4)])] 1
noncomputable def short_C1 (v0 v1 : Int) (v2 : List UInt8) (v3 : List (List UInt8)) (v4 : List Node) : ASt E := ASt.mk 37 [(1, .ptr 0 0), (4, .d (.int .i64 v0))] [(0, .box [.d (.int .i64 v1), .d (.str v2), .d (.slice .str v3), .d (.slice .api_Node v4)])] 1
noncomputable def short_t (_n : Nat) (G : Nat → ASt E → Option (List (TV E))) (x0 : Node) : Option (List (TV E)) :=
  bif (decide ((200 : Int) < (x0.text.length : Int))) then some [⟨.bool, false⟩] else G 0 (short_C0 0 x0.kind x0.text x0.keys x0.kids)
theorem short_e (n : Nat) (G : Nat → ASt E → Option (List (TV E))) (x0 : Node) : runE (short_O n) short_H G Tryz.f8 [⟨.api_Node, x0⟩] = short_t n G x0 := by kernel_rfl
noncomputable def short_t0 (_n : Nat) (G : Nat → ASt E → Option (List (TV E))) (v0 v1 : Int) (v2 : List UInt8) (v3 : List (List UInt8)) (v4 : List Node) : Option (List (TV E)) :=
  bif (decide (v0 < (v3.length : Int))) then (bif (decide ((0 : Int) ≤ v0) && decide (v0 < (v3.length : Int))) then (bif (decide ((200 : Int) < ((List.getD v3 (Int.toNat v0) (dflt .str)).length : Int))) then some [⟨.bool, false⟩] else G 0 (short_C0 (w64 (v0 + (1 : Int))) v1 v2 v3 v4)) else none) else G 1 (short_C1 0 v1 v2 v3 v4)
theorem short_l0 (n : Nat) (G : Nat → ASt E → Option (List (TV E))) (v0 v1 : Int) (v2 : List UInt8) (v3 : List (List UInt8)) (v4 : List Node) : runL (short_O n) short_H G Tryz.f8 0 (short_C0 v0 v1 v2 v3 v4) = short_t0 n G v0 v1 v2 v3 v4 := by kernel_rfl
noncomputable def short_t1 (n : Nat) (G : Nat → ASt E → Option (List (TV E))) (v0 v1 : Int) (v2 : List UInt8) (v3 : List (List UInt8)) (v4 : List Node) : Option (List (TV E)) :=
  bif (decide (v0 < (v4.length : Int))) then (bif (decide ((0 : Int) ≤ v0) && decide (v0 < (v4.length : Int))) then (bif ((dp n) (⟨(List.getD v4 (Int.toNat v0) (dflt .api_Node)).kind, (List.getD v4 (Int.toNat v0) (dflt .api_Node)).text, (List.getD v4 (Int.toNat v0) (dflt .api_Node)).keys, (List.getD v4 (Int.toNat v0) (dflt .api_Node)).kids⟩ : Node)) then (bif (!((shortV n) (⟨(List.getD v4 (Int.toNat v0) (dflt .api_Node)).kind, (List.getD v4 (Int.toNat v0) (dflt .api_Node)).text, (List.getD v4 (Int.toNat v0) (dflt .api_Node)).keys, (List.getD v4 (Int.toNat v0) (dflt .api_Node)).kids⟩ : Node))) then some [⟨.bool, false⟩] else G 1 (short_C1 (w64 (v0 + (1 : Int))) v1 v2 v3 v4)) else none) else none) else some [⟨.bool, true⟩]
theorem short_l1 (n : Nat) (G : Nat → ASt E → Option (List (TV E))) (v0 v1 : Int) (v2 : List UInt8) (v3 : List (List UInt8)) (v4 : List Node) : runL (short_O n) short_H G Tryz.f8 1 (short_C1 v0 v1 v2 v3 v4) = short_t1 n G v0 v1 v2 v3 v4 := by kernel_rfl
theorem short_f : Tryz.prog.funcs[8]? = some Tryz.f8 := by kernel_rfl
theorem short_n : (Tryz.f8.name == "runtime.NumGoroutine") = false := by kernel_rfl
theorem short_b : Tryz.f8.body.isNone = false := by kernel_rfl
theorem short_ex : ∃ fn, Tryz.prog.funcs[8]? = some fn ∧ (fn.name == "runtime.NumGoroutine") = false ∧ fn.body.isNone = false := ⟨Tryz.f8, short_f, short_n, short_b⟩
theorem short_hO (n : Nat) (ih : FnOk E short_id (short_W n)) : OracleOk E (short_O n) := orac_ok (.cons ih .nil) .nil .nil .nil
theorem short_s0 (n : Nat) (ih : FnOk E short_id (short_W n)) {res : List (TV E)} {v0 v1 : Int} {v2 : List UInt8} {v3 : List (List UInt8)} {v4 : List Node} (h : short_t0 n (Gr E Tryz.f8 res) v0 v1 v2 v3 v4 = some res) : Ev E Tryz.f8 res 0 (short_C0 v0 v1 v2 v3 v4) := Ev.step (short_hO n ih) mix ((short_l0 n _ v0 v1 v2 v3 v4).trans h)
theorem short_s1 (n : Nat) (ih : FnOk E short_id (short_W n)) {res : List (TV E)} {v0 v1 : Int} {v2 : List UInt8} {v3 : List (List UInt8)} {v4 : List Node} (h : short_t1 n (Gr E Tryz.f8 res) v0 v1 v2 v3 v4 = some res) : Ev E Tryz.f8 res 1 (short_C1 v0 v1 v2 v3 v4) := Ev.step (short_hO n ih) mix ((short_l1 n _ v0 v1 v2 v3 v4).trans h)
theorem short_ok_of (n : Nat) (ih : FnOk E short_id (short_W n)) (h : ∀ (x0 : Node), (dp (n + 1)) x0 = true → short_t n (Gr E Tryz.f8 [⟨.bool, (shortV (n + 1)) x0⟩]) x0 = some [⟨.bool, (shortV (n + 1)) x0⟩]) : FnOk E short_id (short_W (n + 1)) := fn1_ok (short_hO n ih) mix short_f short_n short_b (fun x0 hk => (short_e n _ x0).trans (h x0 hk))
theorem d200 {n : Nat} (h : n ≤ 200) : decide ((200 : Int) < (n : Int)) = false := dF (by omega)
theorem d200' {n : Nat} (h : ¬ n ≤ 200) : decide ((200 : Int) < (n : Int)) = true := dT (by omega)
theorem short_1 (n : Nat) (ih : FnOk E short_id (short_W n)) (x : Node) (hl : x.kids.length ≤ 1000000) (hd : ∀ y ∈ x.kids, dp n y = true) : ∀ (m i : Nat), x.kids.length - i = m → i ≤ x.kids.length →
    Ev E Tryz.f8 [⟨.bool, (x.kids.drop i).all (shortV n)⟩] 1 (short_C1 i x.kind x.text x.keys x.kids) := by
  intro m
  induction m with
  | zero =>
    intro i h1 h2
    refine short_s1 n ih ?_
    simp only [short_t1, dge (show x.kids.length ≤ i by omega), cond_false, List.drop_eq_nil_of_le (show x.kids.length ≤ i by omega)]
    rfl
  | succ m ih2 =>
    intro i h1 h2
    have hi : i < x.kids.length := by omega
    refine short_s1 n ih ?_
    simp only [short_t1, dlt hi, d0, gd x.kids _ i hi, Bool.and_self, cond_true, node_eta, hd _ (List.getElem_mem hi)]
    rw [← List.getElem_cons_drop hi, w64_id (by omega) (by omega), List.all_cons]
    cases shortV n x.kids[i] with
    | false => rfl
    | true =>
      simp only [Bool.not_true, cond_false, Bool.true_and]
      exact Gr_of (ih2 (i + 1) (by omega) (by omega))
theorem short_0 (n : Nat) (ih : FnOk E short_id (short_W n)) (x : Node) (hk : x.keys.length ≤ 1000000) (hl : x.kids.length ≤ 1000000) (hd : ∀ y ∈ x.kids, dp n y = true) : ∀ (m i : Nat), x.keys.length - i = m → i ≤ x.keys.length →
    Ev E Tryz.f8 [⟨.bool, (x.keys.drop i).all (fun k => decide (k.length ≤ 200)) && x.kids.all (shortV n)⟩] 0 (short_C0 i x.kind x.text x.keys x.kids) := by
  intro m
  induction m with
  | zero =>
    intro i h1 h2
    refine short_s0 n ih ?_
    simp only [short_t0, dge (show x.keys.length ≤ i by omega), cond_false, List.drop_eq_nil_of_le (show x.keys.length ≤ i by omega)]
    have := Gr_of (short_1 n ih x hl hd x.kids.length 0 (by omega) (by omega))
    rw [List.drop_zero] at this
    exact this
  | succ m ih2 =>
    intro i h1 h2
    have hi : i < x.keys.length := by omega
    refine short_s0 n ih ?_
    simp only [short_t0, dlt hi, d0, gd x.keys _ i hi, Bool.and_self, cond_true]
    rw [← List.getElem_cons_drop hi, w64_id (by omega) (by omega), List.all_cons]
    by_cases h : x.keys[i].length ≤ 200
    · rw [d200 h, cond_false, dT h, Bool.true_and]
      exact Gr_of (ih2 (i + 1) (by omega) (by omega))
    · rw [d200' h, cond_true, dF h]; rfl
theorem short_ok (n : Nat) : FnOk E short_id (short_W n) := by
  induction n with
  | zero => exact fn1_bot short_ex fun x => rfl
  | succ n ih =>
    refine short_ok_of n ih fun x hk => ?_
    have hk := dp_iff.1 hk
    simp only [short_t, shortV]
    by_cases h : x.text.length ≤ 200
    · rw [d200 h, cond_false, dT h, Bool.true_and]
      have := Gr_of (short_0 n ih x hk.1.1 hk.1.2 hk.2 x.keys.length 0 (by omega) (by omega))
      rw [List.drop_zero] at this
      exact this
    · rw [d200' h, cond_true, dF h]; rfl
theorem left_wf : ∀ (n : Nat) (x : Node) (d l : Int), d + (n + 1 : Nat) = 14 → l ≤ 201 → 0 ≤ leftV (n + 1) x d l → dp n x = true ∧ (shortV n x = true → wf 200 n x = true)
  | n, x, d, l, hd, hl, h => by
    unfold leftV at h
    cases h1 : badA x d (l - 1) with
    | true => rw [h1, cond_true] at h; omega
    | false =>
      cases h2 : badB x with
      | true => rw [h1, h2, cond_false, cond_true] at h; omega
      | false =>
        cases h3 : badC x (l - 1) with
        | true => rw [h1, h2, h3, cond_false, cond_false, cond_true] at h; omega
        | false =>
          rw [h1, h2, h3, cond_false, cond_false, cond_false] at h
          have hA : ¬ 12 < d := by
            intro a2
            unfold badA at h1
            rw [dT a2] at h1
            cases hx : decide (l - 1 < 0) <;> rw [hx] at h1 <;> cases h1
          obtain ⟨m, rfl⟩ : ∃ m, n = m + 1 := ⟨n - 1, by omega⟩
          obtain ⟨q1, q2⟩ := kidsV_le (fun k l h => leftV_le (m + 1) k (d + 1) l h) x.kids (l - 1) h
          have hrec : ∀ y ∈ x.kids, dp m y = true ∧ (shortV m y = true → wf 200 m y = true) := fun y hy => by
            obtain ⟨l', h4, h5⟩ := q2 y hy
            exact left_wf m y (d + 1) l' (by omega) (by omega) h4
          have hkeys : (x.kind = 3 → x.keys.length = x.kids.length) ∧ (x.kind ≠ 3 → x.keys.length = 0) := by
            constructor
            · intro e
              unfold badC at h3
              rw [eqT e, cond_true] at h3
              by_cases a1 : (x.keys.length : Int) = x.kids.length
              · omega
              · rw [neT a1] at h3; cases h3
            · intro e
              unfold badB at h2
              rw [neT e, cond_true] at h2
              by_cases a1 : (0 : Int) < (x.keys.length : Int)
              · rw [dT a1] at h2
                cases hx : (bif x.kind != 1 then decide ((0 : Int) < (x.text.length : Int)) else false) <;> rw [hx] at h2 <;> cases h2
              · omega
          have hk : x.keys.length ≤ 200 := by
            by_cases e : x.kind = 3
            · have := hkeys.1 e; omega
            · have := hkeys.2 e; omega
          refine ⟨dp_iff.2 ⟨⟨by omega, by omega⟩, fun y hy => (hrec y hy).1⟩, fun hs => ?_⟩
          simp only [shortV, Bool.and_eq_true, decide_eq_true_eq, List.all_eq_true] at hs
          exact wf_iff.2 ⟨hk, by omega, hkeys.1, hs.1, hs.2.1, fun y hy => (hrec y hy).2 (hs.2.2 y hy)⟩
  termination_by n => n
def okSm (_ : Node) (m : Int) : Bool := decide (0 ≤ m) && decide (m ≤ 200)
def smallV (x : Node) (m : Int) : Bool := bif decide (0 ≤ leftV 13 x 1 m) then shortV 12 x else false
noncomputable def small_W : FnW E := fn2 (E := E) .api_Node .int .bool okSm smallV
def small_id : FuncId := 4
noncomputable def small_O : Oracle E := orac [(7, left_W 13), (8, short_W 12)] [] [] []
noncomputable def small_H : Hint E := Hint.mk [] [] [] [] []
noncomputable def small_t (_G : Nat → ASt E → Option (List (TV E))) (x0 : Node) (x1 : Int) : Option (List (TV E)) :=
  bif ((okL 13) (⟨x0.kind, x0.text, x0.keys, x0.kids⟩ : Node) (1 : Int) x1) then (bif (((dp 12) (⟨x0.kind, x0.text, x0.keys, x0.kids⟩ : Node)) || !(decide ((0 : Int) ≤ ((leftV 13) (⟨x0.kind, x0.text, x0.keys, x0.kids⟩ : Node) (1 : Int) x1)))) then some [⟨.bool, (bif (decide ((0 : Int) ≤ ((leftV 13) (⟨x0.kind, x0.text, x0.keys, x0.kids⟩ : Node) (1 : Int) x1))) then ((shortV 12) (⟨x0.kind, x0.text, x0.keys, x0.kids⟩ : Node)) else false)⟩] else none) else none
theorem small_e (G : Nat → ASt E → Option (List (TV E))) (x0 : Node) (x1 : Int) : runE small_O small_H G Tryz.f4 [⟨.api_Node, x0⟩, ⟨.int, x1⟩] = small_t G x0 x1 := by kernel_rfl
theorem small_f : Tryz.prog.funcs[4]? = some Tryz.f4 := by kernel_rfl
theorem small_n : (Tryz.f4.name == "runtime.NumGoroutine") = false := by kernel_rfl
theorem small_b : Tryz.f4.body.isNone = false := by kernel_rfl
theorem small_hO : OracleOk E small_O := orac_ok (.cons (left_ok 13) (.cons (short_ok 12) .nil)) .nil .nil .nil
theorem small_ok_of (h : ∀ (x0 : Node) (x1 : Int), okSm x0 x1 = true → small_t (Gr E Tryz.f4 [⟨.bool, smallV x0 x1⟩]) x0 x1 = some [⟨.bool, smallV x0 x1⟩]) : FnOk E small_id small_W := fn2_ok small_hO mix small_f small_n small_b (fun x0 x1 hk => (small_e _ x0 x1).trans (h x0 x1 hk))
theorem small_ok : FnOk E small_id small_W := small_ok_of fun x m hk => by
  have hm : 0 ≤ m ∧ m ≤ 200 := by simpa [okSm] using hk
  have e1 : okL 13 x 1 m = true := okL_iff.2 ⟨⟨⟨by decide, by decide⟩, by omega⟩, by omega⟩
  have e2 : (dp 12 x || !(decide (0 ≤ leftV 13 x 1 m))) = true := by
    by_cases h : 0 ≤ leftV 13 x 1 m
    · rw [(left_wf 12 x 1 m (by decide) (by omega) h).1]; rfl
    · rw [dF h]; simp
  simp only [small_t, node_eta, e1, e2, cond_true]
  rfl
theorem small_wf {x : Node} {m : Int} (hm : m ≤ 200) (h : smallV x m = true) : wf 200 12 x = true := by
  unfold smallV at h
  by_cases h0 : 0 ≤ leftV 13 x 1 m
  · rw [dT h0, cond_true] at h
    exact (left_wf 12 x 1 m (by decide) (by omega) h0).2 h
  · rw [dF h0] at h; cases h
end Go.Proofs.YtgniedpgdjmfpaaGreatDoor.Rf
namespace Go.Proofs.YtgniedpgdjmfpaaGreatDoor.Mir
open Go Go.RowKit
section
variable {P : Program} {E : Env P}
def argsI : List (AV E) → Nat → List (Nat × AV E)
  | [], _ => []
  | v :: r, i => (i, bif isCond v then .any else v) :: argsI r (i + 1)
def startI (fn : Func) (args : List (AV E)) (objs : List (Nat × AObj E)) (next : Nat) : ASt E := ⟨args.length + (fn.ntmps - args.length), argsI args 0, objs, next⟩
def valsA (S : ASt E) : List ResultVar → Option (List (AV E))
  | [] => some []
  | r :: rs => match valA S r with
    | some v => (match isCond v with
      | true => none
      | false => (match valsA S rs with
        | some vs => some (v :: vs)
        | none => none))
    | none => none
def endI {R : Type} (fn : Func) (k : AV E → List (Nat × AObj E) → Nat → Option R) (e : AExit) (S : ASt E) : Option R := match e with
  | .exit _ => none
  | .goto _ => none
  | _ => match valsA S fn.results.toList with
    | some [v] => k v S.objs S.next
    | some vs => k (.tup vs) S.objs S.next
    | none => none
def loopU {R : Type} (f : ASt E → (AExit → ASt E → Option R) → Option R) : Nat → ASt E → (AExit → ASt E → Option R) → Option R
  | 0, _, _ => none
  | m + 1, S, k => f S (seqK (fun S' => loopU f m S' k) k)
def evU {R : Type} (O : Oracle E) (h : Hint E) (m : Nat) : Code → ASt E → (AExit → ASt E → Option R) → Option R
  | .skip, S, k => k .normal S
  | .region id ops dr, S, k => splitK (atN h.split id) (openS (atN h.opn id) (match memN h.frz id with | true => freezeS S | false => S)) fun S' => evReg O ops dr S' (k .normal)
  | .seq x y, S, k => evU O h m x S (seqK (fun S' => evU O h m y S' k) k)
  | .cond c x y, S, k => match getA S.tmps [] c with
    | .d (.bool b) => bif b then evU O h m x S k else evU O h m y S k
    | _ => none
  | .block id body, S, k => evU O h m body S (blockK id k)
  | .loop b, S, k => loopU (evU O h m b) m S k
  | .exit id, S, k => k (.exit id) S
  | .ret, S, k => k .ret S
  | _, _, _ => none
theorem evU_sound {R : Type} {O : Oracle E} (hO : OracleOk E O) (hmix : P.follows .mixedOrders = true) {h : Hint E} {m n : Nat} {w0 : Start} {ro0 : Nat → Nat → Prop} {rr : R} :
    ∀ (c : Code) (S : ASt E) (k : AExit → ASt E → Option R) (Q : Exit → Act → World → Prop) (a : Act) (w : World) (ι : Nat → Option Gh) (ro : Nat → Nat → Prop),
    NoCond S.tmps → Gam E w0 ro0 S a w ι ro → S.n = n → evU O h m c S k = some rr →
    (∀ e S' a' w' ι' ro', NoCond S'.tmps → Gam E w0 ro0 S' a' w' ι' ro' → S'.n = n → k e S' = some rr → Q e.toExit a' w') → c.wp P Q a w := by
  intro c
  induction c with
  | skip => intro S k Q a w ι ro hnc hg hn h hk; exact wp_skip (hk .normal S a w ι ro hnc hg hn h)
  | ret => intro S k Q a w ι ro hnc hg hn h hk; exact wp_ret (hk .ret S a w ι ro hnc hg hn h)
  | exit id => intro S k Q a w ι ro hnc hg hn h hk; exact wp_exit (hk (.exit id) S a w ι ro hnc hg hn h)
  | region id ops draw =>
    intro S k Q a w ι ro hnc hg hn hh hk
    have go : ∀ (S : ASt E) (ro : Nat → Nat → Prop), NoCond S.tmps → Gam E w0 ro0 S a w ι ro → S.n = n → evReg O ops draw S (k .normal) = some rr → (Code.region id ops draw).wp P Q a w := by
      intro S ro hnc hg hn h
      cases draw with
      | true =>
        exact evDraw_sound (n := S.n) (glob := S.tmps) (objs := S.objs) (next := S.next) hO hmix hnc hg (fun S' a' w' ι' ro' h1 h2 h3 h4 => hk .normal S' a' w' ι' ro' h1 h2 (h3.trans hn) h4) h
      | false =>
        refine wp_region_list (evSeq_sound (n := S.n) (glob := S.tmps) hO hnc (fun S' a' w' ι' ro' h1 h2 h3 h4 => hk .normal S' a' w' ι' ro' h1 h2 (h3.trans hn) h4) ops.toList [] S.objs S.next a w ι ro hg h)
    simp only [evU] at hh
    have fin : ∀ (l1 : List (Nat × Nat)) (l2 : List Nat) (S : ASt E) (ro : Nat → Nat → Prop), NoCond S.tmps → Gam E w0 ro0 S a w ι ro → S.n = n → splitK l1 (openS l2 S) (fun S' => evReg O ops draw S' (k .normal)) = some rr → (Code.region id ops draw).wp P Q a w := by
      intro l1 l2 S ro hnc hg hn h
      obtain ⟨ro1, g1, g2, g3⟩ := openS_sound l2 S ro hnc hg
      obtain ⟨S2, g4, g5, g6, g7⟩ := splitK_sound _ _ g1 g2 h
      exact go S2 ro1 g4 g5 (g6.trans (g3.trans hn)) g7
    split at hh
    · obtain ⟨h1, h2⟩ := freezeS_sound hnc hg
      exact fin _ _ (freezeS S) _ h1 h2 hn hh
    · exact fin _ _ S ro hnc hg hn hh
  | seq x y ihx ihy =>
    intro S k Q a w ι ro hnc hg hn h hk
    refine wp_seq (ihx S _ _ a w ι ro hnc hg hn h fun e S' a' w' ι' ro' h1 h2 h3 h4 => ?_)
    cases e with
    | normal => exact ihy S' k Q a' w' ι' ro' h1 h2 h3 h4 hk
    | exit id => exact hk (.exit id) S' a' w' ι' ro' h1 h2 h3 h4
    | goto l => exact hk (.goto l) S' a' w' ι' ro' h1 h2 h3 h4
    | ret => exact hk .ret S' a' w' ι' ro' h1 h2 h3 h4
  | cond c x y ihx ihy =>
    intro S k Q a w ι ro hnc hg hn h hk
    have hc := getA_rep (E := E) (asm := []) hg.tmps (fun j b hb => by simp [hasAsm] at hb) c
    simp only [evU] at h
    split at h
    · rename_i b hb
      rw [hb] at hc
      have hc := hc.bool_inv
      cases b with
      | true => exact wp_cond_true hc (ihx S k Q a w ι ro hnc hg hn h hk)
      | false => exact wp_cond_false hc (ihy S k Q a w ι ro hnc hg hn h hk)
    · cases h
  | block id body ih =>
    intro S k Q a w ι ro hnc hg hn h hk
    refine wp_block (ih S _ _ a w ι ro hnc hg hn h fun e S' a' w' ι' ro' h1 h2 h3 h4 => ?_)
    cases e with
    | normal => exact hk .normal S' a' w' ι' ro' h1 h2 h3 h4
    | goto l => exact hk (.goto l) S' a' w' ι' ro' h1 h2 h3 h4
    | ret => exact hk .ret S' a' w' ι' ro' h1 h2 h3 h4
    | exit i =>
      simp only [AExit.toExit, Exit.inBlock, blockK] at h4 ⊢
      cases hb : Nat.beq i id with
      | true =>
        rw [hb] at h4
        rw [if_pos (Nat.eq_of_beq_eq_true hb)]
        exact hk .normal S' a' w' ι' ro' h1 h2 h3 h4
      | false =>
        rw [hb] at h4
        rw [if_neg (fun e => by subst e; simp at hb)]
        exact hk (.exit i) S' a' w' ι' ro' h1 h2 h3 h4
  | loop body ih =>
    intro S k Q a w ι ro hnc hg hn hh hk
    have rounds : ∀ (f : Nat) (S : ASt E) (a : Act) (w : World) (ι : Nat → Option Gh) (ro : Nat → Nat → Prop), NoCond S.tmps → Gam E w0 ro0 S a w ι ro → S.n = n → loopU (evU O h m body) f S k = some rr → LoopWp P body Q a w := by
      intro f
      induction f with
      | zero => intro S a w ι ro _ _ _ h; cases h
      | succ f ihf =>
        intro S a w ι ro hnc hg hn h
        refine LoopWp.round (ih S _ _ a w ι ro hnc hg hn h fun e S' a' w' ι' ro' h1 h2 h3 h4 => ?_)
        cases e with
        | normal => exact ihf S' a' w' ι' ro' h1 h2 h3 h4
        | exit id => exact hk (.exit id) S' a' w' ι' ro' h1 h2 h3 h4
        | goto l => exact hk (.goto l) S' a' w' ι' ro' h1 h2 h3 h4
        | ret => exact hk .ret S' a' w' ι' ro' h1 h2 h3 h4
    exact (rounds m S a w ι ro hnc hg hn hh).wp
  | _ => intro S k Q a w ι ro hnc hg hn h hk; cases h
def hintOf (hs : List (FuncId × Hint E)) (f : FuncId) : Hint E := match look hs f with
  | some h => h
  | none => {}
def mkI (O : Oracle E) (tbl : List (FuncId × Func)) (hs : List (FuncId × Hint E)) : Nat → Inl E
  | 0 => .nil
  | n + 1 => ⟨fun f => (look tbl f).isSome, fun f args objs next k => match look tbl f with
    | some fn => match fn.body with
      | some c => evU { O with inl := mkI O tbl hs n } (hintOf hs f) 5 c (startI fn args objs next) (endI fn k)
      | none => none
    | none => none⟩
def withI (O : Oracle E) (tbl : List (FuncId × Func)) (hs : List (FuncId × Hint E) := []) : Oracle E := { O with inl := mkI O tbl hs 4 }
theorem argsI_look : ∀ {args : List (AV E)} {i t : Nat} {x : AV E}, look (argsI args i) t = some x → i ≤ t ∧ ∃ y, args[t - i]? = some y ∧ x = bif isCond y then .any else y
  | [], _, _, _, h => by cases h
  | v :: r, i, t, x, h => by
    simp only [argsI, look] at h
    split at h
    · rename_i hb
      have := Nat.eq_of_beq_eq_true hb
      subst this
      cases h
      exact ⟨Nat.le_refl _, v, by simp, rfl⟩
    · rename_i hb
      obtain ⟨h1, z, h2, h3⟩ := argsI_look h
      have hne : t ≠ i := fun e => by subst e; omega
      exact ⟨by omega, z, by rw [show t - i = (t - (i + 1)) + 1 from by omega]; simpa using h2, h3⟩
theorem argsI_noCond : ∀ (args : List (AV E)) (i : Nat), NoCond (argsI args i)
  | [], _ => fun p h => by cases h
  | v :: r, i => fun p h => by
    cases h with
    | head =>
      cases hc : isCond v with
      | true => rfl
      | false => exact hc
    | tail _ h => exact argsI_noCond r (i + 1) p h
theorem valsA_rep {w0 : Start} {ro0 : Nat → Nat → Prop} {S : ASt E} {a : Act} {w : World} {ι : Nat → Option Gh} {ro : Nat → Nat → Prop} (hg : Gam E w0 ro0 S a w ι ro) : ∀ {rs : List ResultVar} {xs : List (AV E)}, valsA S rs = some xs →
    ∃ vs : List Value, (rs.mapM (resV a.tmps)).run P w = Result.ok vs w ∧ vs.length = xs.length ∧ ∀ (i : Nat) v x, vs[i]? = some v → xs[i]? = some x → Rep E w ro ι v x ∧ isCond x = false
  | [], xs, h => by cases h; exact ⟨[], by simp, rfl, fun i v x hv => by simp at hv⟩
  | r :: rs, xs, h => by
    unfold valsA at h
    split at h
    · rename_i v hv
      split at h
      · cases h
      · rename_i hc
        split at h
        · rename_i ys hys
          cases h
          obtain ⟨u, hu, hr⟩ := valA_rep hg hv
          obtain ⟨us, hus, hl, hrs⟩ := valsA_rep hg hys
          refine ⟨u :: us, by rw [List.mapM_cons]; simp only [Sem.run_bind, hu, Result.andThen_ok, hus, Sem.run_pure], by simp [hl], fun i v' x' h1 h2 => ?_⟩
          cases i with
          | zero => simp at h1 h2; subst h1; subst h2; exact ⟨hr, hc⟩
          | succ i => exact hrs i v' x' (by simpa using h1) (by simpa using h2)
        · cases h
    · cases h
def EndIP {R : Type} (E : Env P) (k : AV E → List (Nat × AObj E) → Nat → Option R) (rr : R) (w0 : Start) (ro0 : Nat → Nat → Prop) (e : Ending) (w' : World) : Prop :=
  ∃ (v : Value) (x : AV E) (objs' : List (Nat × AObj E)) (next' : Nat) (ι' : Nat → Option Gh) (ro' : Nat → Nat → Prop) (a' : Act), e = .returned v ∧ k x objs' next' = some rr ∧ Rep E w' ro' ι' v x ∧ Base w0 ro0 a' w' ι' ro' ∧
    (∀ (id : Nat) o, look objs' id = some o → ObjOk E w' ro' ι' id o) ∧ Inj E objs' ι' ∧ (∀ id, next' ≤ id → ι' id = none) ∧ (∀ id o, look objs' id = some o → id < next')
theorem endI_sound {R : Type} {fn : Func} {k : AV E → List (Nat × AObj E) → Nat → Option R} {rr : R} {w0 : Start} {ro0 : Nat → Nat → Prop} {e : AExit} {S' : ASt E} {a' : Act} {w' : World} {ι' : Nat → Option Gh} {ro' : Nat → Nat → Prop} (hg' : Gam E w0 ro0 S' a' w' ι' ro') (hk : endI fn k e S' = some rr) :
    bodyPost P fn (EndIP E k rr w0 ro0) e.toExit a' w' := by
  have fin : (match valsA S' fn.results.toList with | some [v] => k v S'.objs S'.next | some vs => k (.tup vs) S'.objs S'.next | none => none) = some rr → a'.defers = [] ∧ ∃ v, (results fn a'.tmps).run P w' = .ok v w' ∧ EndIP E k rr w0 ro0 (.returned v) w' := by
    intro h
    cases hv : valsA S' fn.results.toList with
    | none => rw [hv] at h; cases h
    | some xs =>
      rw [hv] at h
      obtain ⟨vs, hvs, hl, hrep⟩ := valsA_rep hg' hv
      refine ⟨hg'.base.defers, if h : vs.length = 1 then vs[0] else .tuple vs.toArray, ?_, ?_⟩
      · show (do let vs ← fn.results.mapM (resV a'.tmps); pure (if h : vs.size = 1 then vs[0] else .tuple vs) : Sem Value).run P w' = _
        rw [Array.mapM_eq_mapM_toList]
        simp only [Sem.run_bind, Sem.run_map, hvs]
        simp [Result.andThen]
      · by_cases h1 : vs.length = 1
        · rw [dif_pos h1]
          match xs, hl, h, hrep with
          | [x], _, h, hrep => exact ⟨_, x, _, _, ι', ro', a', rfl, h, (hrep 0 _ x (List.getElem?_eq_getElem (by omega)) rfl).1, hg'.base, hg'.objs, hg'.inj, hg'.fresh, hg'.ids⟩
          | [], hl, _, _ => exact absurd (h1.symm.trans hl) (by simp)
          | _ :: _ :: _, hl, _, _ => exact absurd (h1.symm.trans hl) (by simp)
        · rw [dif_neg h1]
          have h : k (.tup xs) S'.objs S'.next = some rr := by
            match xs, hl, h with
            | [x], hl, _ => exact absurd hl h1
            | [], _, h => exact h
            | _ :: _ :: _, _, h => exact h
          exact ⟨_, .tup xs, _, _, ι', ro', a', rfl, h, .tup _ _ (by simpa using hl) (fun j v x hv hx => (hrep j v x (by simpa using hv) hx).1), hg'.base, hg'.objs, hg'.inj, hg'.fresh, hg'.ids⟩
  cases e with
  | normal => exact fin hk
  | ret => exact fin hk
  | exit id => cases hk
  | goto l => cases hk
def TblOk (P : Program) (tbl : List (FuncId × Func)) : Prop := ∀ p ∈ tbl, P.funcs[p.1]? = some p.2 ∧ (p.2.name == "runtime.NumGoroutine") = false ∧ p.2.body.isNone = false
theorem TblOk.nil : TblOk P [] := fun p h => by cases h
theorem TblOk.cons {f : FuncId} {fn : Func} {l : List (FuncId × Func)} (h1 : P.funcs[f]? = some fn) (h2 : (fn.name == "runtime.NumGoroutine") = false) (h3 : fn.body.isNone = false) (hl : TblOk P l) : TblOk P ((f, fn) :: l) := fun p hp => by
  cases hp with
  | head => exact ⟨h1, h2, h3⟩
  | tail _ hp => exact hl p hp
theorem mkI_ok {O : Oracle E} (hO : OracleOk E O) (hmix : P.follows .mixedOrders = true) {tbl : List (FuncId × Func)} {hs : List (FuncId × Hint E)} (ht : TblOk P tbl) : ∀ n, InlOk E (mkI O tbl hs n)
  | 0 => fun f args objs next k rr h => by cases h
  | n + 1 => fun f args objs next k rr h => by
    have hO' : OracleOk E { O with inl := mkI O tbl hs n } := ⟨hO.1, hO.2.1, hO.2.2.1, hO.2.2.2.1, mkI_ok hO hmix ht n⟩
    simp only [mkI] at h
    split at h
    · rename_i fn hl
      obtain ⟨hf, hname, hbody⟩ := ht _ (look_mem _ _ _ hl)
      split at h
      · rename_i c hc
        refine ⟨⟨fn, hf, hname, hbody⟩, fun w0 ro0 a w ι ro vals hb ho hi hfr hids hlen hargs => ?_⟩
        let w1 : Start := ⟨w0.w, w0.x, some ⟨w, ro, ι⟩⟩
        refine (calls_of_wp (R := EndIP E k rr w1 ro0) hf hc ?_).mono fun e w' he => by
          obtain ⟨v, x, objs', next', ι', ro', a', h1, h2, h3, h4, h5, h6, h7, h8⟩ := he
          obtain ⟨q1, q2⟩ := h4.keep _ rfl
          exact ⟨v, x, objs', next', ι', ro', h1, h2, h3, ⟨h4.below, h4.rolt, h4.ronew, h4.ilt, hb.defers, fun q hq => by
            obtain ⟨p1, p2⟩ := hb.keep q hq
            exact ⟨fun k o h => ⟨(q1 k o (p1 k o h).1).1, (q1 k o (p1 k o h).1).2.trans (p1 k o h).2⟩, fun id gh h => q2 id gh (p2 id gh h)⟩⟩, h5, h6, h7, h8, q1, q2⟩
        have hg : Gam E w1 ro0 (startI fn args objs next) { tmps := vals.toArray ++ Array.replicate (fn.ntmps - vals.toArray.size) undef, defers := [] } w ι ro := {
          base := ⟨hb.below, hb.rolt, hb.ronew, hb.ilt, rfl, fun q hq => by cases hq; exact ⟨fun k o h => ⟨h, rfl⟩, fun _ _ h => h⟩⟩
          size := by simp [startI, hlen]
          tmps := fun t x hl => by
            obtain ⟨_, y, hy, rfl⟩ := argsI_look hl
            rw [Nat.sub_zero] at hy
            have hlt : t < vals.length := by rw [hlen]; exact (List.getElem?_eq_some_iff.1 hy).1
            have hv := List.getElem?_eq_getElem hlt
            refine ⟨vals[t], by simp [Array.getElem?_append, hlt], ?_⟩
            have hr : Rep E w ro ι vals[t] y := hargs t _ y hv hy
            cases hcy : isCond y with
            | true => exact Rep.any _
            | false =>
              rw [cond_false]
              cases y <;> first | exact hr | cases hcy
          objs := ho
          inj := hi
          fresh := hfr
          ids := hids }
        exact evU_sound (n := (startI fn args objs next).n) hO' hmix c (startI fn args objs next) (endI fn k) _ _ w _ ro (argsI_noCond args 0) hg rfl h
          fun e S' a' w' ι' ro' _ h2 _ h4 => endI_sound h2 h4
      · cases h
    · cases h
theorem withI_ok {O : Oracle E} (hO : OracleOk E O) (hmix : P.follows .mixedOrders = true) {tbl : List (FuncId × Func)} {hs : List (FuncId × Hint E)} (ht : TblOk P tbl) : OracleOk E (withI O tbl hs) := ⟨hO.1, hO.2.1, hO.2.2.1, hO.2.2.2.1, mkI_ok hO hmix ht 4⟩
end
end Go.Proofs.YtgniedpgdjmfpaaGreatDoor.Mir
namespace Go.Proofs.YtgniedpgdjmfpaaGreatDoor.Rf
open Go Go.RowKit Go.Sort Go.Proofs.YtgniedpgdjmfpaaGreatDoor.Mir
def txt1 (s : List UInt8) : Node := ⟨1, s, [], []⟩
noncomputable def ntext_W : FnW E := fn1 (E := E) .str .api_Node (fun _ => true) txt1
def ntext_id : FuncId := 62
noncomputable def ntext_O : Oracle E := orac [] [] [] []
noncomputable def ntext_H : Hint E := Hint.mk [] [] [] [] []
noncomputable def ntext_t (_G : Nat → ASt E → Option (List (TV E))) (x0 : List UInt8) : Option (List (TV E)) :=
  some [⟨.api_Node, (⟨1, x0, [], []⟩ : Node)⟩]
theorem ntext_e (G : Nat → ASt E → Option (List (TV E))) (x0 : List UInt8) : runE ntext_O ntext_H G Tryz.f62 [⟨.str, x0⟩] = ntext_t G x0 := by kernel_rfl
theorem ntext_f : Tryz.prog.funcs[62]? = some Tryz.f62 := by kernel_rfl
theorem ntext_n : (Tryz.f62.name == "runtime.NumGoroutine") = false := by kernel_rfl
theorem ntext_b : Tryz.f62.body.isNone = false := by kernel_rfl
theorem ntext_hO : OracleOk E ntext_O := orac_ok .nil .nil .nil .nil
theorem ntext_ok_of (h : ∀ (x0 : List UInt8), ntext_t (Gr E Tryz.f62 [⟨.api_Node, txt1 x0⟩]) x0 = some [⟨.api_Node, txt1 x0⟩]) : FnOk E ntext_id ntext_W := fn1_ok ntext_hO mix ntext_f ntext_n ntext_b (fun x0 _ => (ntext_e _ x0).trans (h x0))
theorem ntext_ok : FnOk E ntext_id ntext_W := ntext_ok_of fun s => rfl
theorem idxF_lt (s : List UInt8) : ∀ (l : List (List UInt8)) (i : Nat), idxF s i l < (i : Int) + (l.length : Int)
  | [], i => by simp only [idxF, List.length_nil]; omega
  | a :: t, i => by
    unfold idxF
    split
    · simp only [List.length_cons]; omega
    · have := idxF_lt s t (i + 1)
      simp only [List.length_cons]; omega
def okWp (n : Node) (_ : List UInt8) (_ : Node) : Bool := fit ⟨3, [], n.keys, n.kids⟩
def withP (n : Node) (k : List UInt8) (v : Node) : Node := bif (bif n.kind != 3 then n.kind != 0 else false) then n else bif decide (0 ≤ index n.keys k) then ⟨3, [], n.keys, n.kids.set (index n.keys k).toNat v⟩ else ⟨3, [], n.keys ++ [k], n.kids ++ [v]⟩
noncomputable def nwith_W : FnW E := fn3 (E := E) .api_Node .str .api_Node .api_Node okWp withP
def nwith_id : FuncId := 52
noncomputable def nwith_O : Oracle E := orac [(112, nplace_W)] [(111, cloneF 25), (110, cloneF 9)] [] []
noncomputable def nwith_H : Hint E := Hint.mk [] [] [] [] []
noncomputable def nwith_t (_G : Nat → ASt E → Option (List (TV E))) (x0 : Node) (x1 : List UInt8) (x2 : Node) : Option (List (TV E)) :=
  bif (bif (x0.kind != (3 : Int)) then (x0.kind != (0 : Int)) else false) then some [⟨.api_Node, (⟨x0.kind, x0.text, x0.keys, x0.kids⟩ : Node)⟩] else (bif (decide (x0.keys.length * 16 ≤ maxBytes)) then (bif (decide (x0.kids.length * 72 ≤ maxBytes)) then (bif ((fun n _ => fit n) (⟨3, [], x0.keys, x0.kids⟩ : Node) x1) then (bif (decide ((0 : Int) ≤ (place ⟨3, [], x0.keys, x0.kids⟩ x1))) then (bif (decide ((0 : Int) ≤ (place ⟨3, [], x0.keys, x0.kids⟩ x1)) && decide ((place ⟨3, [], x0.keys, x0.kids⟩ x1) < (x0.kids.length : Nat))) then some [⟨.api_Node, (⟨3, [], x0.keys, (List.set x0.kids (Int.toNat (place ⟨3, [], x0.keys, x0.kids⟩ x1)) (⟨x2.kind, x2.text, x2.keys, x2.kids⟩ : Node))⟩ : Node)⟩] else none) else (bif (decide ((x0.keys.length + ([x1] : List (List UInt8)).length) * 16 ≤ maxBytes)) then (bif (decide ((x0.kids.length + ([(⟨x2.kind, x2.text, x2.keys, x2.kids⟩ : Node)] : List Node).length) * 72 ≤ maxBytes)) then some [⟨.api_Node, (⟨3, [], (x0.keys ++ ([x1] : List (List UInt8))), (x0.kids ++ ([(⟨x2.kind, x2.text, x2.keys, x2.kids⟩ : Node)] : List Node))⟩ : Node)⟩] else none) else none)) else none) else none) else none)
theorem nwith_e (G : Nat → ASt E → Option (List (TV E))) (x0 : Node) (x1 : List UInt8) (x2 : Node) : runE nwith_O nwith_H G Tryz.f52 [⟨.api_Node, x0⟩, ⟨.str, x1⟩, ⟨.api_Node, x2⟩] = nwith_t G x0 x1 x2 := by kernel_rfl
theorem nwith_f : Tryz.prog.funcs[52]? = some Tryz.f52 := by kernel_rfl
theorem nwith_n : (Tryz.f52.name == "runtime.NumGoroutine") = false := by kernel_rfl
theorem nwith_b : Tryz.f52.body.isNone = false := by kernel_rfl
theorem nwith_hO : OracleOk E nwith_O := orac_ok (.cons nplace_ok .nil) (.cons (clone_fresh (T := 23) (b := 4) (e := 25) (fn := Tryz.f111) (by kernel_rfl) (by kernel_rfl) (by kernel_rfl) (by kernel_rfl) (by kernel_rfl) (by kernel_rfl)) (.cons (clone_fresh (T := 22) (b := 4) (e := 9) (fn := Tryz.f110) (by kernel_rfl) (by kernel_rfl) (by kernel_rfl) (by kernel_rfl) (by kernel_rfl) (by kernel_rfl)) .nil)) .nil .nil
theorem nwith_ok_of (h : ∀ (x0 : Node) (x1 : List UInt8) (x2 : Node), okWp x0 x1 x2 = true → nwith_t (Gr E Tryz.f52 [⟨.api_Node, withP x0 x1 x2⟩]) x0 x1 x2 = some [⟨.api_Node, withP x0 x1 x2⟩]) : FnOk E nwith_id nwith_W := fn3_ok nwith_hO mix nwith_f nwith_n nwith_b (fun x0 x1 x2 hk => (nwith_e _ x0 x1 x2).trans (h x0 x1 x2 hk))
theorem nwith_ok : FnOk E nwith_id nwith_W := nwith_ok_of fun n k v hk => by
  have hk' : fit ⟨3, [], n.keys, n.kids⟩ = true := hk
  obtain ⟨⟨h1, h2⟩, h3⟩ := fit_iff.1 hk'
  have h1 : n.keys.length ≤ 1000000 := h1
  have h2 : n.kids.length ≤ 1000000 := h2
  have h3 : n.keys.length = n.kids.length := h3 rfl
  have ep : place ⟨3, [], n.keys, n.kids⟩ k = index n.keys k := if_pos rfl
  have hlt : index n.keys k < (n.keys.length : Int) := by have := idxF_lt k n.keys 0; unfold index; omega
  have b1 : decide (n.keys.length * 16 ≤ maxBytes) = true := dT (by rw [mb]; omega)
  have b2 : decide (n.kids.length * 72 ≤ maxBytes) = true := dT (by rw [mb]; omega)
  have b3 : decide ((n.keys.length + [k].length) * 16 ≤ maxBytes) = true := dT (by rw [mb, List.length_singleton]; omega)
  have b4 : decide ((n.kids.length + [v].length) * 72 ≤ maxBytes) = true := dT (by rw [mb, List.length_singleton]; omega)
  simp only [nwith_t, withP, node_eta, hk', ep, b1, b2, b3, b4, cond_true]
  cases (bif n.kind != 3 then n.kind != 0 else false) with
  | true => rfl
  | false =>
    simp only [cond_false]
    by_cases h0 : 0 ≤ index n.keys k
    · rw [dT h0, dT (show index n.keys k < (n.kids.length : Int) by omega)]; rfl
    · rw [dF h0]; rfl
end Go.Proofs.YtgniedpgdjmfpaaGreatDoor.Rf
namespace Go.Proofs.YtgniedpgdjmfpaaGreatDoor.Rf
open Go Go.RowKit Go.Sort Go.Proofs.YtgniedpgdjmfpaaGreatDoor.Mir
def sortP : Nat → Node → Node
  | 0, x => x
  | n + 1, x => bif (x.kids.length : Int) == 0 then x else bif x.kind != 3 then ⟨x.kind, x.text, [], x.kids.map (sortP n)⟩ else ⟨x.kind, x.text, Pl.sortD x.keys, (Pl.sortD x.keys).map fun k => sortP n (getV x k)⟩
noncomputable def ndsorted_W (n : Nat) : FnW E := fn1 (E := E) .api_Node .api_Node (wg 10000 n) (sortP n)
def ndsorted_id : FuncId := 54
noncomputable def ndsorted_O (n : Nat) : Oracle E := orac [(113, nsorted_W), (71, nget_W), (54, ndsorted_W n)] [] [] []
noncomputable def ndsorted_H : Hint E := Hint.mk [(0, [2, 3, 24, 25, 26]), (1, [1, 2, 3, 44, 45, 46])] [] [(0, [(3, some 3, true, .api_Node)]), (1, [(3, some 3, true, .api_Node)])] [] []
noncomputable def ndsorted_C0 (v0 : List Node) (v1 v2 v3 : Int) (v4 : List UInt8) (v5 : Int) (v6 : List UInt8) (v7 : List Node) : ASt E := ASt.mk 65 [(2, .ptr 0 0), (3, .ptr 1 0), (24, .d (.slice .api_Node v0)), (25, .d (.int .i64 v1)), (26, .d (.int .i64 v2))] [(0, .box [.d (.int .i64 v3), .d (.str v4), .d (.raw (.slice none 0 0)), .d (.raw (.slice none 0 0))]), (1, .box [.d (.int .i64 v5), .d (.str v6), .d (.raw (.slice none 0 0)), .grow .api_Node v7 2]), (2, .tail true)] 3
noncomputable def ndsorted_C1 (v0 : List (List UInt8)) (v1 v2 v3 : Int) (v4 : List UInt8) (v5 : List (List UInt8)) (v6 : List Node) (v7 : Int) (v8 : List UInt8) (v9 : Int) (v10 : List UInt8) (v11 : List (List UInt8)) (v12 : List Node) : ASt E := ASt.mk 65 [(1, .ptr 0 0), (2, .ptr 1 0), (3, .ptr 2 0), (44, .d (.slice .str v0)), (45, .d (.int .i64 v1)), (46, .d (.int .i64 v2))] [(0, .box [.d (.int .i64 v3), .d (.str v4), .d (.slice .str v5), .d (.slice .api_Node v6)]), (1, .box [.d (.int .i64 v7), .d (.str v8), .d (.raw (.slice none 0 0)), .d (.raw (.slice none 0 0))]), (2, .box [.d (.int .i64 v9), .d (.str v10), .d (.slice .str v11), .grow .api_Node v12 3]), (3, .tail true)] 4
noncomputable def ndsorted_t (_n : Nat) (G : Nat → ASt E → Option (List (TV E))) (x0 : Node) : Option (List (TV E)) :=
  bif ((x0.kids.length : Int) == (0 : Int)) then some [⟨.api_Node, (⟨x0.kind, x0.text, x0.keys, x0.kids⟩ : Node)⟩] else (bif (x0.kind != (3 : Int)) then G 0 (ndsorted_C0 x0.kids (x0.kids.length : Int) 0 0 [] x0.kind x0.text []) else (bif (ln6 x0.keys) then G 1 (ndsorted_C1 (Pl.sortD x0.keys) ((Pl.sortD x0.keys).length : Int) 0 x0.kind x0.text x0.keys x0.kids 0 [] x0.kind x0.text (Pl.sortD x0.keys) []) else none))
theorem ndsorted_e (n : Nat) (G : Nat → ASt E → Option (List (TV E))) (x0 : Node) : runE (ndsorted_O n) ndsorted_H G Tryz.f54 [⟨.api_Node, x0⟩] = ndsorted_t n G x0 := by kernel_rfl
noncomputable def ndsorted_t0 (n : Nat) (G : Nat → ASt E → Option (List (TV E))) (v0 : List Node) (v1 v2 v3 : Int) (v4 : List UInt8) (v5 : Int) (v6 : List UInt8) (v7 : List Node) : Option (List (TV E)) :=
  bif (decide (v2 < v1)) then (bif (decide ((0 : Int) ≤ v2) && decide (v2 < (v0.length : Int))) then (bif ((wg 10000 n) (⟨(List.getD v0 (Int.toNat v2) (dflt .api_Node)).kind, (List.getD v0 (Int.toNat v2) (dflt .api_Node)).text, (List.getD v0 (Int.toNat v2) (dflt .api_Node)).keys, (List.getD v0 (Int.toNat v2) (dflt .api_Node)).kids⟩ : Node)) then (bif (decide ((v7.length + ([((sortP n) (⟨(List.getD v0 (Int.toNat v2) (dflt .api_Node)).kind, (List.getD v0 (Int.toNat v2) (dflt .api_Node)).text, (List.getD v0 (Int.toNat v2) (dflt .api_Node)).keys, (List.getD v0 (Int.toNat v2) (dflt .api_Node)).kids⟩ : Node))] : List Node).length) * 72 ≤ maxBytes)) then G 0 (ndsorted_C0 v0 v1 (w64 (v2 + (1 : Int))) v3 v4 v5 v6 (v7 ++ ([((sortP n) (⟨(List.getD v0 (Int.toNat v2) (dflt .api_Node)).kind, (List.getD v0 (Int.toNat v2) (dflt .api_Node)).text, (List.getD v0 (Int.toNat v2) (dflt .api_Node)).keys, (List.getD v0 (Int.toNat v2) (dflt .api_Node)).kids⟩ : Node))] : List Node))) else none) else none) else none) else some [⟨.api_Node, (⟨v5, v6, [], v7⟩ : Node)⟩]
theorem ndsorted_l0 (n : Nat) (G : Nat → ASt E → Option (List (TV E))) (v0 : List Node) (v1 v2 v3 : Int) (v4 : List UInt8) (v5 : Int) (v6 : List UInt8) (v7 : List Node) : runL (ndsorted_O n) ndsorted_H G Tryz.f54 0 (ndsorted_C0 v0 v1 v2 v3 v4 v5 v6 v7) = ndsorted_t0 n G v0 v1 v2 v3 v4 v5 v6 v7 := by kernel_rfl
noncomputable def ndsorted_t1 (n : Nat) (G : Nat → ASt E → Option (List (TV E))) (v0 : List (List UInt8)) (v1 v2 v3 : Int) (v4 : List UInt8) (v5 : List (List UInt8)) (v6 : List Node) (v7 : Int) (v8 : List UInt8) (v9 : Int) (v10 : List UInt8) (v11 : List (List UInt8)) (v12 : List Node) : Option (List (TV E)) :=
  bif (decide (v2 < v1)) then (bif (decide ((0 : Int) ≤ v2) && decide (v2 < (v0.length : Int))) then (bif ((fun n _ => fit n) (⟨v3, v4, v5, v6⟩ : Node) (List.getD v0 (Int.toNat v2) (dflt .str))) then (bif ((wg 10000 n) (⟨(getV ⟨v3, v4, v5, v6⟩ (List.getD v0 (Int.toNat v2) (dflt .str))).kind, (getV ⟨v3, v4, v5, v6⟩ (List.getD v0 (Int.toNat v2) (dflt .str))).text, (getV ⟨v3, v4, v5, v6⟩ (List.getD v0 (Int.toNat v2) (dflt .str))).keys, (getV ⟨v3, v4, v5, v6⟩ (List.getD v0 (Int.toNat v2) (dflt .str))).kids⟩ : Node)) then (bif (decide ((v12.length + ([((sortP n) (⟨(getV ⟨v3, v4, v5, v6⟩ (List.getD v0 (Int.toNat v2) (dflt .str))).kind, (getV ⟨v3, v4, v5, v6⟩ (List.getD v0 (Int.toNat v2) (dflt .str))).text, (getV ⟨v3, v4, v5, v6⟩ (List.getD v0 (Int.toNat v2) (dflt .str))).keys, (getV ⟨v3, v4, v5, v6⟩ (List.getD v0 (Int.toNat v2) (dflt .str))).kids⟩ : Node))] : List Node).length) * 72 ≤ maxBytes)) then G 1 (ndsorted_C1 v0 v1 (w64 (v2 + (1 : Int))) v3 v4 v5 v6 v7 v8 v9 v10 v11 (v12 ++ ([((sortP n) (⟨(getV ⟨v3, v4, v5, v6⟩ (List.getD v0 (Int.toNat v2) (dflt .str))).kind, (getV ⟨v3, v4, v5, v6⟩ (List.getD v0 (Int.toNat v2) (dflt .str))).text, (getV ⟨v3, v4, v5, v6⟩ (List.getD v0 (Int.toNat v2) (dflt .str))).keys, (getV ⟨v3, v4, v5, v6⟩ (List.getD v0 (Int.toNat v2) (dflt .str))).kids⟩ : Node))] : List Node))) else none) else none) else none) else none) else some [⟨.api_Node, (⟨v9, v10, v11, v12⟩ : Node)⟩]
theorem ndsorted_l1 (n : Nat) (G : Nat → ASt E → Option (List (TV E))) (v0 : List (List UInt8)) (v1 v2 v3 : Int) (v4 : List UInt8) (v5 : List (List UInt8)) (v6 : List Node) (v7 : Int) (v8 : List UInt8) (v9 : Int) (v10 : List UInt8) (v11 : List (List UInt8)) (v12 : List Node) : runL (ndsorted_O n) ndsorted_H G Tryz.f54 1 (ndsorted_C1 v0 v1 v2 v3 v4 v5 v6 v7 v8 v9 v10 v11 v12) = ndsorted_t1 n G v0 v1 v2 v3 v4 v5 v6 v7 v8 v9 v10 v11 v12 := by kernel_rfl
theorem ndsorted_f : Tryz.prog.funcs[54]? = some Tryz.f54 := by kernel_rfl
theorem ndsorted_n : (Tryz.f54.name == "runtime.NumGoroutine") = false := by kernel_rfl
theorem ndsorted_b : Tryz.f54.body.isNone = false := by kernel_rfl
theorem ndsorted_ex : ∃ fn, Tryz.prog.funcs[54]? = some fn ∧ (fn.name == "runtime.NumGoroutine") = false ∧ fn.body.isNone = false := ⟨Tryz.f54, ndsorted_f, ndsorted_n, ndsorted_b⟩
theorem ndsorted_hO (n : Nat) (ih : FnOk E ndsorted_id (ndsorted_W n)) : OracleOk E (ndsorted_O n) := orac_ok (.cons nsorted_ok (.cons nget_ok (.cons ih .nil))) .nil .nil .nil
theorem ndsorted_s0 (n : Nat) (ih : FnOk E ndsorted_id (ndsorted_W n)) {res : List (TV E)} {v0 : List Node} {v1 v2 v3 : Int} {v4 : List UInt8} {v5 : Int} {v6 : List UInt8} {v7 : List Node} (h : ndsorted_t0 n (Gr E Tryz.f54 res) v0 v1 v2 v3 v4 v5 v6 v7 = some res) : Ev E Tryz.f54 res 0 (ndsorted_C0 v0 v1 v2 v3 v4 v5 v6 v7) := Ev.step (ndsorted_hO n ih) mix ((ndsorted_l0 n _ v0 v1 v2 v3 v4 v5 v6 v7).trans h)
theorem ndsorted_s1 (n : Nat) (ih : FnOk E ndsorted_id (ndsorted_W n)) {res : List (TV E)} {v0 : List (List UInt8)} {v1 v2 v3 : Int} {v4 : List UInt8} {v5 : List (List UInt8)} {v6 : List Node} {v7 : Int} {v8 : List UInt8} {v9 : Int} {v10 : List UInt8} {v11 : List (List UInt8)} {v12 : List Node} (h : ndsorted_t1 n (Gr E Tryz.f54 res) v0 v1 v2 v3 v4 v5 v6 v7 v8 v9 v10 v11 v12 = some res) : Ev E Tryz.f54 res 1 (ndsorted_C1 v0 v1 v2 v3 v4 v5 v6 v7 v8 v9 v10 v11 v12) := Ev.step (ndsorted_hO n ih) mix ((ndsorted_l1 n _ v0 v1 v2 v3 v4 v5 v6 v7 v8 v9 v10 v11 v12).trans h)
theorem ndsorted_ok_of (n : Nat) (ih : FnOk E ndsorted_id (ndsorted_W n)) (h : ∀ (x0 : Node), (wg 10000 (n + 1)) x0 = true → ndsorted_t n (Gr E Tryz.f54 [⟨.api_Node, (sortP (n + 1)) x0⟩]) x0 = some [⟨.api_Node, (sortP (n + 1)) x0⟩]) : FnOk E ndsorted_id (ndsorted_W (n + 1)) := fn1_ok (ndsorted_hO n ih) mix ndsorted_f ndsorted_n ndsorted_b (fun x0 hk => (ndsorted_e n _ x0).trans (h x0 hk))
theorem ndsorted_1 (n : Nat) (ih : FnOk E ndsorted_id (ndsorted_W n)) (x : Node) (hx : wg 10000 (n + 1) x = true) (h3 : x.kind = 3) (ks : List (List UInt8)) (hks : ks.length ≤ 10000) (hm : ∀ k ∈ ks, k ∈ x.keys) (u0 : Int) (u1 : List UInt8) (v0 : Int) (v1 : List UInt8) (v2 : List (List UInt8)) :
    ∀ (m i : Nat) (ov : List Node), ks.length - i = m → i ≤ ks.length → ov.length = i →
      Ev E Tryz.f54 [⟨.api_Node, (⟨v0, v1, v2, ov ++ (ks.drop i).map fun k => sortP n (getV x k)⟩ : Node)⟩] 1 (ndsorted_C1 ks ks.length i x.kind x.text x.keys x.kids u0 u1 v0 v1 v2 ov) := by
  have fx := wg_fit hx (by decide)
  intro m
  induction m with
  | zero =>
    intro i ov h1 h2 h4
    refine ndsorted_s1 n ih ?_
    simp only [ndsorted_t1, dge (show ks.length ≤ i by omega), cond_false, List.drop_eq_nil_of_le (show ks.length ≤ i by omega), List.append_nil, List.map_nil]
  | succ m ih2 =>
    intro i ov h1 h2 h4
    have hi : i < ks.length := by omega
    have e2 : ∀ v : Node, decide ((ov.length + [v].length) * 72 ≤ maxBytes) = true := fun v => dT (by rw [mb, List.length_singleton]; omega)
    have e3 : w64 ((i : Int) + 1) = ((i + 1 : Nat) : Int) := by rw [w64_id (by omega) (by omega)]; omega
    have hw : wg 10000 n (getV x ks[i]) = true := wg_get hx (getB_g hx h3 (hm _ (List.getElem_mem hi)))
    refine ndsorted_s1 n ih ?_
    simp only [ndsorted_t1, dlt hi, d0, gd ks _ i hi, Bool.and_self, cond_true, node_eta, fx, hw, e2, e3]
    have := Gr_of (ih2 (i + 1) (ov ++ [sortP n (getV x ks[i])]) (by omega) (by omega) (by simp [h4]))
    rw [← List.getElem_cons_drop hi, List.map_cons]
    rw [List.append_assoc] at this
    exact this
theorem ndsorted_0 (n : Nat) (ih : FnOk E ndsorted_id (ndsorted_W n)) (l : List Node) (hl : l.length ≤ 10000) (hw : ∀ y ∈ l, wg 10000 n y = true) (u0 : Int) (u1 : List UInt8) (v0 : Int) (v1 : List UInt8) :
    ∀ (m i : Nat) (ov : List Node), l.length - i = m → i ≤ l.length → ov.length = i →
      Ev E Tryz.f54 [⟨.api_Node, (⟨v0, v1, [], ov ++ (l.drop i).map (sortP n)⟩ : Node)⟩] 0 (ndsorted_C0 l l.length i u0 u1 v0 v1 ov) := by
  intro m
  induction m with
  | zero =>
    intro i ov h1 h2 h4
    refine ndsorted_s0 n ih ?_
    simp only [ndsorted_t0, dge (show l.length ≤ i by omega), cond_false, List.drop_eq_nil_of_le (show l.length ≤ i by omega), List.append_nil, List.map_nil]
  | succ m ih2 =>
    intro i ov h1 h2 h4
    have hi : i < l.length := by omega
    have e2 : ∀ v : Node, decide ((ov.length + [v].length) * 72 ≤ maxBytes) = true := fun v => dT (by rw [mb, List.length_singleton]; omega)
    have e3 : w64 ((i : Int) + 1) = ((i + 1 : Nat) : Int) := by rw [w64_id (by omega) (by omega)]; omega
    refine ndsorted_s0 n ih ?_
    simp only [ndsorted_t0, dlt hi, d0, gd l _ i hi, Bool.and_self, cond_true, node_eta, hw _ (List.getElem_mem hi), e2, e3]
    have := Gr_of (ih2 (i + 1) (ov ++ [sortP n l[i]]) (by omega) (by omega) (by simp [h4]))
    rw [← List.getElem_cons_drop hi, List.map_cons]
    rw [List.append_assoc] at this
    exact this
theorem ndsorted_ok (n : Nat) : FnOk E ndsorted_id (ndsorted_W n) := by
  induction n with
  | zero => exact fn1_bot ndsorted_ex fun x => rfl
  | succ n ih =>
    refine ndsorted_ok_of n ih fun x hk => ?_
    have hw := wg_iff.1 hk
    have h6 : ln6 x.keys = true := ln6_iff.2 (by omega)
    simp only [ndsorted_t, sortP, node_eta, h6, cond_true]
    by_cases h0 : (x.kids.length : Int) = 0
    · rw [eqT h0]; rfl
    · rw [eqF h0, cond_false, cond_false]
      by_cases h3 : x.kind = 3
      · rw [neF h3, cond_false, cond_false]
        have hs := Pl.sortD_len x.keys
        have := Gr_of (ndsorted_1 n ih x hk h3 (Pl.sortD x.keys) (by omega) (fun k hk => Pl.sortD_mem.1 hk) 0 [] x.kind x.text (Pl.sortD x.keys) _ 0 [] rfl (Nat.zero_le _) rfl)
        rw [List.drop_zero] at this
        exact this
      · rw [neT h3, cond_true, cond_true]
        have := Gr_of (ndsorted_0 n ih x.kids hw.2.1 hw.2.2.2 0 [] x.kind x.text _ 0 [] rfl (Nat.zero_le _) rfl)
        rw [List.drop_zero] at this
        exact this
end Go.Proofs.YtgniedpgdjmfpaaGreatDoor.Rf
namespace Go.Proofs.YtgniedpgdjmfpaaGreatDoor.Rf
open Go Go.RowKit Go.Sort Go.Proofs.YtgniedpgdjmfpaaGreatDoor.Mir
def txsV : List Node → Option (List (List UInt8))
  | [] => some []
  | x :: t => bif x.kind != 1 then none else (txsV t).map (x.text :: ·)
def okTx (n : Node) : Bool := decide (n.kids.length ≤ 1000000)
def txsL (n : Node) : List (List UInt8) := (txsV n.kids).getD []
def txsB (n : Node) : Bool := (txsV n.kids).isSome && (bif n.kind == 2 then decide ((n.kids.length : Int) ≤ 32) else false)
noncomputable def ntexts_W : FnW E := fn12 (E := E) .api_Node .l_str .bool okTx txsL txsB
def ntexts_id : FuncId := 66
noncomputable def ntexts_O : Oracle E := withI (orac [] [] [] []) [(14, Tryz.f14)]
noncomputable def ntexts_H : Hint E := Hint.mk [(0, [1, 4, 8, 9, 10])] [] [(0, [(4, none, true, .str)])] [] []
noncomputable def ntexts_C0 (v0 : List (List UInt8)) (v1 : List Node) (v2 v3 v4 : Int) (v5 : List UInt8) (v6 : List (List UInt8)) (v7 : List Node) : ASt E := ASt.mk 26 [(1, .ptr 0 0), (4, .grow .str v0 1), (8, .d (.slice .api_Node v1)), (9, .d (.int .i64 v2)), (10, .d (.int .i64 v3))] [(0, .box [.d (.int .i64 v4), .d (.str v5), .d (.slice .str v6), .d (.slice .api_Node v7)]), (1, .tail true)] 2
noncomputable def ntexts_t (G : Nat → ASt E → Option (List (TV E))) (x0 : Node) : Option (List (TV E)) :=
  G 0 (ntexts_C0 [] x0.kids (x0.kids.length : Int) 0 x0.kind x0.text x0.keys x0.kids)
theorem ntexts_e (G : Nat → ASt E → Option (List (TV E))) (x0 : Node) : runE ntexts_O ntexts_H G Tryz.f66 [⟨.api_Node, x0⟩] = ntexts_t G x0 := by kernel_rfl
noncomputable def ntexts_t0 (G : Nat → ASt E → Option (List (TV E))) (v0 : List (List UInt8)) (v1 : List Node) (v2 v3 v4 : Int) (v5 : List UInt8) (v6 : List (List UInt8)) (v7 : List Node) : Option (List (TV E)) :=
  bif (decide (v3 < v2)) then (bif (decide ((0 : Int) ≤ v3) && decide (v3 < (v1.length : Int))) then (bif ((List.getD v1 (Int.toNat v3) (dflt .api_Node)).kind != (1 : Int)) then some [⟨.l_str, ([] : List (List UInt8))⟩, ⟨.bool, false⟩] else (bif (decide ((v0.length + ([(List.getD v1 (Int.toNat v3) (dflt .api_Node)).text] : List (List UInt8)).length) * 16 ≤ maxBytes)) then G 0 (ntexts_C0 (v0 ++ ([(List.getD v1 (Int.toNat v3) (dflt .api_Node)).text] : List (List UInt8))) v1 v2 (w64 (v3 + (1 : Int))) v4 v5 v6 v7) else none)) else none) else some [⟨.l_str, v0⟩, ⟨.bool, (bif (v4 == (2 : Int)) then (decide ((v7.length : Int) ≤ (32 : Int))) else false)⟩]
theorem ntexts_l0 (G : Nat → ASt E → Option (List (TV E))) (v0 : List (List UInt8)) (v1 : List Node) (v2 v3 v4 : Int) (v5 : List UInt8) (v6 : List (List UInt8)) (v7 : List Node) : runL ntexts_O ntexts_H G Tryz.f66 0 (ntexts_C0 v0 v1 v2 v3 v4 v5 v6 v7) = ntexts_t0 G v0 v1 v2 v3 v4 v5 v6 v7 := by kernel_rfl
theorem ntexts_f : Tryz.prog.funcs[66]? = some Tryz.f66 := by kernel_rfl
theorem ntexts_n : (Tryz.f66.name == "runtime.NumGoroutine") = false := by kernel_rfl
theorem ntexts_b : Tryz.f66.body.isNone = false := by kernel_rfl
theorem ntexts_hO : OracleOk E ntexts_O := withI_ok (orac_ok .nil .nil .nil .nil) mix (.cons (f := 14) (fn := Tryz.f14) (by kernel_rfl) (by kernel_rfl) (by kernel_rfl) .nil)
theorem ntexts_s0 {res : List (TV E)} {v0 : List (List UInt8)} {v1 : List Node} {v2 v3 v4 : Int} {v5 : List UInt8} {v6 : List (List UInt8)} {v7 : List Node} (h : ntexts_t0 (Gr E Tryz.f66 res) v0 v1 v2 v3 v4 v5 v6 v7 = some res) : Ev E Tryz.f66 res 0 (ntexts_C0 v0 v1 v2 v3 v4 v5 v6 v7) := Ev.step ntexts_hO mix ((ntexts_l0 _ v0 v1 v2 v3 v4 v5 v6 v7).trans h)
theorem ntexts_ok_of (h : ∀ (x0 : Node), okTx x0 = true → ntexts_t (Gr E Tryz.f66 [⟨.l_str, txsL x0⟩, ⟨.bool, txsB x0⟩]) x0 = some [⟨.l_str, txsL x0⟩, ⟨.bool, txsB x0⟩]) : FnOk E ntexts_id ntexts_W := fn12_ok ntexts_hO mix ntexts_f ntexts_n ntexts_b (fun x0 hk => (ntexts_e _ x0).trans (h x0 hk))
theorem ntexts_0 (n : Node) (hb : n.kids.length ≤ 1000000) : ∀ (m i : Nat) (acc : List (List UInt8)), n.kids.length - i = m → i ≤ n.kids.length → acc.length = i →
    Ev E Tryz.f66 [⟨.l_str, ((txsV (n.kids.drop i)).map (acc ++ ·)).getD []⟩, ⟨.bool, (txsV (n.kids.drop i)).isSome && (bif n.kind == 2 then decide ((n.kids.length : Int) ≤ 32) else false)⟩] 0 (ntexts_C0 acc n.kids n.kids.length i n.kind n.text n.keys n.kids) := by
  intro m
  induction m with
  | zero =>
    intro i acc h1 h2 h3
    refine ntexts_s0 ?_
    simp only [ntexts_t0, dge (show n.kids.length ≤ i by omega), cond_false, List.drop_eq_nil_of_le (show n.kids.length ≤ i by omega), txsV, Option.map_some, Option.getD_some, List.append_nil, Option.isSome_some, Bool.true_and]
  | succ m ih =>
    intro i acc h1 h2 h3
    have hi : i < n.kids.length := by omega
    have e3 : w64 ((i : Int) + 1) = ((i + 1 : Nat) : Int) := by rw [w64_id (by omega) (by omega)]; omega
    have e1 : decide ((acc.length + [n.kids[i].text].length) * 16 ≤ maxBytes) = true := dT (by rw [mb, List.length_singleton]; omega)
    refine ntexts_s0 ?_
    rw [← List.getElem_cons_drop hi]
    simp only [ntexts_t0, dlt hi, d0, gd n.kids _ i hi, Bool.and_self, cond_true, e3, e1, txsV]
    cases n.kids[i].kind != 1 with
    | true => rfl
    | false =>
      simp only [cond_false]
      have := Gr_of (ih (i + 1) (acc ++ [n.kids[i].text]) (by omega) (by omega) (by simp [h3]))
      cases ht : txsV (n.kids.drop (i + 1)) with
      | none => rw [ht] at this; exact this
      | some l =>
        rw [ht] at this
        simp only [Option.map_some, Option.getD_some, Option.isSome_some, List.append_assoc, List.singleton_append] at this ⊢
        exact this
theorem ntexts_ok : FnOk E ntexts_id ntexts_W := ntexts_ok_of fun n hk => by
  have hb : n.kids.length ≤ 1000000 := by simpa [okTx] using hk
  have := Gr_of (ntexts_0 n hb n.kids.length 0 [] (by omega) (Nat.zero_le _) rfl)
  simp only [ntexts_t, txsL, txsB]
  rw [List.drop_zero] at this
  have e : ((txsV n.kids).map (([] : List (List UInt8)) ++ ·)).getD [] = (txsV n.kids).getD [] := by cases txsV n.kids <;> rfl
  rw [e] at this
  exact this
end Go.Proofs.YtgniedpgdjmfpaaGreatDoor.Rf
namespace Go.Proofs.YtgniedpgdjmfpaaGreatDoor.Rf
open Go Go.RowKit Go.Sort Go.Proofs.YtgniedpgdjmfpaaGreatDoor.Mir
def smallB (c : Int) : Bool := bif decide (97 ≤ c) then decide (c ≤ 122) else false
def numberB (c : Int) : Bool := bif decide (48 ≤ c) then decide (c ≤ 57) else false
def letterB (c : Int) : Bool := bif smallB c then true else (bif decide (65 ≤ c) then decide (c ≤ 90) else false)
noncomputable def nsmall_W : FnW E := fn1 (E := E) .byte .bool (fun _ => true) smallB
def nsmall_id : FuncId := 161
noncomputable def nsmall_O : Oracle E := orac [] [] [] []
noncomputable def nsmall_H : Hint E := Hint.mk [] [] [] [] []
noncomputable def nsmall_t (_G : Nat → ASt E → Option (List (TV E))) (x0 : Int) : Option (List (TV E)) :=
  some [⟨.bool, (bif (decide ((97 : Int) ≤ x0)) then (decide (x0 ≤ (122 : Int))) else false)⟩]
theorem nsmall_e (G : Nat → ASt E → Option (List (TV E))) (x0 : Int) : runE nsmall_O nsmall_H G Tryz.f161 [⟨.byte, x0⟩] = nsmall_t G x0 := by kernel_rfl
theorem nsmall_f : Tryz.prog.funcs[161]? = some Tryz.f161 := by kernel_rfl
theorem nsmall_n : (Tryz.f161.name == "runtime.NumGoroutine") = false := by kernel_rfl
theorem nsmall_b : Tryz.f161.body.isNone = false := by kernel_rfl
theorem nsmall_hO : OracleOk E nsmall_O := orac_ok .nil .nil .nil .nil
theorem nsmall_ok_of (h : ∀ (x0 : Int), nsmall_t (Gr E Tryz.f161 [⟨.bool, smallB x0⟩]) x0 = some [⟨.bool, smallB x0⟩]) : FnOk E nsmall_id nsmall_W := fn1_ok nsmall_hO mix nsmall_f nsmall_n nsmall_b (fun x0 _ => (nsmall_e _ x0).trans (h x0))
theorem nsmall_ok : FnOk E nsmall_id nsmall_W := nsmall_ok_of fun c => rfl
noncomputable def nnumber_W : FnW E := fn1 (E := E) .byte .bool (fun _ => true) numberB
def nnumber_id : FuncId := 124
noncomputable def nnumber_O : Oracle E := orac [] [] [] []
noncomputable def nnumber_H : Hint E := Hint.mk [] [] [] [] []
noncomputable def nnumber_t (_G : Nat → ASt E → Option (List (TV E))) (x0 : Int) : Option (List (TV E)) :=
  some [⟨.bool, (bif (decide ((48 : Int) ≤ x0)) then (decide (x0 ≤ (57 : Int))) else false)⟩]
theorem nnumber_e (G : Nat → ASt E → Option (List (TV E))) (x0 : Int) : runE nnumber_O nnumber_H G Tryz.f124 [⟨.byte, x0⟩] = nnumber_t G x0 := by kernel_rfl
theorem nnumber_f : Tryz.prog.funcs[124]? = some Tryz.f124 := by kernel_rfl
theorem nnumber_n : (Tryz.f124.name == "runtime.NumGoroutine") = false := by kernel_rfl
theorem nnumber_b : Tryz.f124.body.isNone = false := by kernel_rfl
theorem nnumber_hO : OracleOk E nnumber_O := orac_ok .nil .nil .nil .nil
theorem nnumber_ok_of (h : ∀ (x0 : Int), nnumber_t (Gr E Tryz.f124 [⟨.bool, numberB x0⟩]) x0 = some [⟨.bool, numberB x0⟩]) : FnOk E nnumber_id nnumber_W := fn1_ok nnumber_hO mix nnumber_f nnumber_n nnumber_b (fun x0 _ => (nnumber_e _ x0).trans (h x0))
theorem nnumber_ok : FnOk E nnumber_id nnumber_W := nnumber_ok_of fun c => rfl
noncomputable def nletter_W : FnW E := fn1 (E := E) .byte .bool (fun _ => true) letterB
def nletter_id : FuncId := 123
noncomputable def nletter_O : Oracle E := orac [(161, nsmall_W)] [] [] []
noncomputable def nletter_H : Hint E := Hint.mk [] [] [] [] []
noncomputable def nletter_t (_G : Nat → ASt E → Option (List (TV E))) (x0 : Int) : Option (List (TV E)) :=
  some [⟨.bool, (bif (smallB x0) then true else (bif (decide ((65 : Int) ≤ x0)) then (decide (x0 ≤ (90 : Int))) else false))⟩]
theorem nletter_e (G : Nat → ASt E → Option (List (TV E))) (x0 : Int) : runE nletter_O nletter_H G Tryz.f123 [⟨.byte, x0⟩] = nletter_t G x0 := by kernel_rfl
theorem nletter_f : Tryz.prog.funcs[123]? = some Tryz.f123 := by kernel_rfl
theorem nletter_n : (Tryz.f123.name == "runtime.NumGoroutine") = false := by kernel_rfl
theorem nletter_b : Tryz.f123.body.isNone = false := by kernel_rfl
theorem nletter_hO : OracleOk E nletter_O := orac_ok (.cons nsmall_ok .nil) .nil .nil .nil
theorem nletter_ok_of (h : ∀ (x0 : Int), nletter_t (Gr E Tryz.f123 [⟨.bool, letterB x0⟩]) x0 = some [⟨.bool, letterB x0⟩]) : FnOk E nletter_id nletter_W := fn1_ok nletter_hO mix nletter_f nletter_n nletter_b (fun x0 _ => (nletter_e _ x0).trans (h x0))
theorem nletter_ok : FnOk E nletter_id nletter_W := nletter_ok_of fun c => rfl
def s1B (c : Int) : Bool := bif letterB c then true else numberB c
def s2B (c : Int) : Bool := bif (bif (bif (bif letterB c then true else numberB c) then true else c == 45) then true else c == 95) then true else c == 46
def ofV (f g : Int → Bool) (s : List UInt8) : Bool := bif (bif (bif decide ((s.length : Int) < 1) then true else decide ((24 : Int) < (s.length : Int))) then true else !(f (Int.ofNat (List.getD s (Int.toNat 0) 0).toNat))) then false else (s.drop 1).all fun c => g (Int.ofNat c.toNat)
theorem of_in (s : List UInt8) : ((decide ((0 : Int) ≤ 0) && decide ((0 : Int) < (s.length : Int))) || !(!(bif decide ((s.length : Int) < 1) then true else decide ((24 : Int) < (s.length : Int))))) = true := by
  cases s with
  | nil => rfl
  | cons c t => rw [dT (show (0 : Int) < ((c :: t).length : Int) by rw [List.length_cons]; omega)]; rfl
def okNm1 (s : List UInt8) : Bool := decide (s.length ≤ 1000000)
noncomputable def ns1_W : FnW E := fn1 (E := E) .byte .bool (fun _ => true) s1B
def ns1_id : FuncId := 122
noncomputable def ns1_O : Oracle E := orac [(123, nletter_W), (124, nnumber_W)] [] [] []
noncomputable def ns1_H : Hint E := Hint.mk [] [] [] [] []
noncomputable def ns1_t (_G : Nat → ASt E → Option (List (TV E))) (x0 : Int) : Option (List (TV E)) :=
  some [⟨.bool, (bif (letterB x0) then true else (numberB x0))⟩]
theorem ns1_e (G : Nat → ASt E → Option (List (TV E))) (x0 : Int) : runE ns1_O ns1_H G Tryz.f122 [⟨.byte, x0⟩] = ns1_t G x0 := by kernel_rfl
theorem ns1_f : Tryz.prog.funcs[122]? = some Tryz.f122 := by kernel_rfl
theorem ns1_n : (Tryz.f122.name == "runtime.NumGoroutine") = false := by kernel_rfl
theorem ns1_b : Tryz.f122.body.isNone = false := by kernel_rfl
theorem ns1_hO : OracleOk E ns1_O := orac_ok (.cons nletter_ok (.cons nnumber_ok .nil)) .nil .nil .nil
theorem ns1_ok_of (h : ∀ (x0 : Int), ns1_t (Gr E Tryz.f122 [⟨.bool, s1B x0⟩]) x0 = some [⟨.bool, s1B x0⟩]) : FnOk E ns1_id ns1_W := fn1_ok ns1_hO mix ns1_f ns1_n ns1_b (fun x0 _ => (ns1_e _ x0).trans (h x0))
theorem ns1_ok : FnOk E ns1_id ns1_W := ns1_ok_of fun c => rfl
noncomputable def ns2_W : FnW E := fn1 (E := E) .byte .bool (fun _ => true) s2B
def ns2_id : FuncId := 125
noncomputable def ns2_O : Oracle E := orac [(123, nletter_W), (124, nnumber_W)] [] [] []
noncomputable def ns2_H : Hint E := Hint.mk [] [] [] [] []
noncomputable def ns2_t (_G : Nat → ASt E → Option (List (TV E))) (x0 : Int) : Option (List (TV E)) :=
  some [⟨.bool, (bif (bif (bif (bif (letterB x0) then true else (numberB x0)) then true else (x0 == (45 : Int))) then true else (x0 == (95 : Int))) then true else (x0 == (46 : Int)))⟩]
theorem ns2_e (G : Nat → ASt E → Option (List (TV E))) (x0 : Int) : runE ns2_O ns2_H G Tryz.f125 [⟨.byte, x0⟩] = ns2_t G x0 := by kernel_rfl
theorem ns2_f : Tryz.prog.funcs[125]? = some Tryz.f125 := by kernel_rfl
theorem ns2_n : (Tryz.f125.name == "runtime.NumGoroutine") = false := by kernel_rfl
theorem ns2_b : Tryz.f125.body.isNone = false := by kernel_rfl
theorem ns2_hO : OracleOk E ns2_O := orac_ok (.cons nletter_ok (.cons nnumber_ok .nil)) .nil .nil .nil
theorem ns2_ok_of (h : ∀ (x0 : Int), ns2_t (Gr E Tryz.f125 [⟨.bool, s2B x0⟩]) x0 = some [⟨.bool, s2B x0⟩]) : FnOk E ns2_id ns2_W := fn1_ok ns2_hO mix ns2_f ns2_n ns2_b (fun x0 _ => (ns2_e _ x0).trans (h x0))
theorem ns2_ok : FnOk E ns2_id ns2_W := ns2_ok_of fun c => rfl
def okOfs (s : List UInt8) (f g : Nat) : Bool := decide (f = 122) && (decide (g = 125) && decide (s.length ≤ 1000000))
theorem okOfs_iff {s : List UInt8} {f g : Nat} : okOfs s f g = true ↔ f = 122 ∧ g = 125 ∧ s.length ≤ 1000000 := by simp [okOfs]
def ofs (s : List UInt8) (_ _ : Nat) : Bool := ofV s1B s2B s
noncomputable def nofs_W : FnW E := fn3 (E := E) .str .fn113 .fn113 .bool okOfs ofs
def nofs_id : FuncId := 121
noncomputable def nofs_O : Oracle E := orac [(122, ns1_W), (125, ns2_W)] [] [] []
noncomputable def nofs_H : Hint E := Hint.mk [(0, [0, 2, 7])] [] [] [] []
noncomputable def nofs_C0 (v0 : List UInt8) (v1 : Int) : ASt E := ASt.mk 35 [(0, .d (.str v0)), (2, .d (.raw (.func (.func 125) #[] #[]))), (7, .d (.int .i64 v1))] [] 0
noncomputable def nofs_t (G : Nat → ASt E → Option (List (TV E))) (x0 : List UInt8) : Option (List (TV E)) :=
  bif ((decide ((0 : Int) ≤ (0 : Int)) && decide ((0 : Int) < (x0.length : Int))) || !(!(bif (decide ((x0.length : Int) < (1 : Int))) then true else (decide ((24 : Int) < (x0.length : Int)))))) then (bif (bif (bif (decide ((x0.length : Int) < (1 : Int))) then true else (decide ((24 : Int) < (x0.length : Int)))) then true else (!(s1B (((List.getD x0 (Int.toNat 0) 0).toNat : Nat) : Int)))) then some [⟨.bool, false⟩] else G 0 (nofs_C0 x0 1)) else none
theorem nofs_e (G : Nat → ASt E → Option (List (TV E))) (x0 : List UInt8) : runE nofs_O nofs_H G Tryz.f121 [⟨.str, x0⟩, ⟨.fn113, 122⟩, ⟨.fn113, 125⟩] = nofs_t G x0 := by kernel_rfl
noncomputable def nofs_t0 (G : Nat → ASt E → Option (List (TV E))) (v0 : List UInt8) (v1 : Int) : Option (List (TV E)) :=
  bif (decide (v1 < (v0.length : Int))) then (bif (decide ((0 : Int) ≤ v1) && decide (v1 < (v0.length : Int))) then (bif (!(s2B (((List.getD v0 (Int.toNat v1) 0).toNat : Nat) : Int))) then some [⟨.bool, false⟩] else G 0 (nofs_C0 v0 (w64 (v1 + (1 : Int))))) else none) else some [⟨.bool, true⟩]
theorem nofs_l0 (G : Nat → ASt E → Option (List (TV E))) (v0 : List UInt8) (v1 : Int) : runL nofs_O nofs_H G Tryz.f121 0 (nofs_C0 v0 v1) = nofs_t0 G v0 v1 := by kernel_rfl
theorem nofs_f : Tryz.prog.funcs[121]? = some Tryz.f121 := by kernel_rfl
theorem nofs_n : (Tryz.f121.name == "runtime.NumGoroutine") = false := by kernel_rfl
theorem nofs_b : Tryz.f121.body.isNone = false := by kernel_rfl
theorem nofs_hO : OracleOk E nofs_O := orac_ok (.cons ns1_ok (.cons ns2_ok .nil)) .nil .nil .nil
theorem nofs_s0 {res : List (TV E)} {v0 : List UInt8} {v1 : Int} (h : nofs_t0 (Gr E Tryz.f121 res) v0 v1 = some res) : Ev E Tryz.f121 res 0 (nofs_C0 v0 v1) := Ev.step nofs_hO mix ((nofs_l0 _ v0 v1).trans h)
theorem nofs_ok_of (hs1 : ∀ (x0 : List UInt8) (x1 : Nat) (x2 : Nat), okOfs x0 x1 x2 = true → x1 = 122) (hs2 : ∀ (x0 : List UInt8) (x1 : Nat) (x2 : Nat), okOfs x0 x1 x2 = true → x2 = 125) (h : ∀ (x0 : List UInt8), okOfs x0 122 125 = true → nofs_t (Gr E Tryz.f121 [⟨.bool, ofs x0 122 125⟩]) x0 = some [⟨.bool, ofs x0 122 125⟩]) : FnOk E nofs_id nofs_W := fn3_ok nofs_hO mix nofs_f nofs_n nofs_b (fun x0 x1 x2 hk => by have e1 := hs1 x0 x1 x2 hk; have e2 := hs2 x0 x1 x2 hk; subst e1; subst e2; exact (nofs_e _ x0).trans (h x0 hk))
theorem nofs_loop (s : List UInt8) (hs : s.length ≤ 1000000) : ∀ (m i : Nat), s.length - i = m → i ≤ s.length →
    Ev E Tryz.f121 [⟨.bool, (s.drop i).all fun c => s2B (Int.ofNat c.toNat)⟩] 0 (nofs_C0 s i) := by
  intro m
  induction m with
  | zero =>
    intro i h1 h2
    refine nofs_s0 ?_
    simp only [nofs_t0, dge (show s.length ≤ i by omega), cond_false, List.drop_eq_nil_of_le (show s.length ≤ i by omega)]
    rfl
  | succ m ih =>
    intro i h1 h2
    have hi : i < s.length := by omega
    have e3 : w64 ((i : Int) + 1) = ((i + 1 : Nat) : Int) := by rw [w64_id (by omega) (by omega)]; omega
    refine nofs_s0 ?_
    simp only [nofs_t0, dlt hi, d0, gd s _ i hi, Bool.and_self, cond_true, e3]
    rw [← List.getElem_cons_drop hi, List.all_cons]
    change (bif !(s2B (Int.ofNat s[i].toNat)) then _ else _) = _
    cases s2B (Int.ofNat s[i].toNat) with
    | false => rfl
    | true => exact Gr_of (ih (i + 1) (by omega) (by omega))
theorem nofs_ok : FnOk E nofs_id nofs_W := nofs_ok_of (fun s f g h => (okOfs_iff.1 h).1) (fun s f g h => (okOfs_iff.1 h).2.1) fun s hk => by
  have hs := (okOfs_iff.1 hk).2.2
  simp only [nofs_t, ofs, ofV]
  have e0 := of_in s
  simp only [e0, cond_true]
  change (bif (bif (bif decide ((s.length : Int) < 1) then true else decide ((24 : Int) < (s.length : Int))) then true else !(s1B (Int.ofNat (List.getD s (Int.toNat 0) 0).toNat))) then _ else _) = _
  cases hb : (bif (bif decide ((s.length : Int) < 1) then true else decide ((24 : Int) < (s.length : Int))) then true else !(s1B (Int.ofNat (List.getD s (Int.toNat 0) 0).toNat))) with
  | true => rfl
  | false =>
    simp only [cond_false]
    have h1 : 1 ≤ s.length := by
      by_cases a : (s.length : Int) < 1
      · rw [dT a] at hb; cases hb
      · omega
    exact Gr_of (nofs_loop s hs _ 1 rfl h1)
noncomputable def nService_W : FnW E := fn1 (E := E) .str .bool okNm1 (ofV s1B s2B)
def nService_id : FuncId := 69
noncomputable def nService_O : Oracle E := orac [(121, nofs_W)] [] [] []
noncomputable def nService_H : Hint E := Hint.mk [] [] [] [] []
noncomputable def nService_t (_G : Nat → ASt E → Option (List (TV E))) (x0 : List UInt8) : Option (List (TV E)) :=
  bif (okOfs x0 122 125) then some [⟨.bool, (ofs x0 122 125)⟩] else none
theorem nService_e (G : Nat → ASt E → Option (List (TV E))) (x0 : List UInt8) : runE nService_O nService_H G Tryz.f69 [⟨.str, x0⟩] = nService_t G x0 := by kernel_rfl
theorem nService_f : Tryz.prog.funcs[69]? = some Tryz.f69 := by kernel_rfl
theorem nService_n : (Tryz.f69.name == "runtime.NumGoroutine") = false := by kernel_rfl
theorem nService_b : Tryz.f69.body.isNone = false := by kernel_rfl
theorem nService_hO : OracleOk E nService_O := orac_ok (.cons nofs_ok .nil) .nil .nil .nil
theorem nService_ok_of (h : ∀ (x0 : List UInt8), okNm1 x0 = true → nService_t (Gr E Tryz.f69 [⟨.bool, (ofV s1B s2B) x0⟩]) x0 = some [⟨.bool, (ofV s1B s2B) x0⟩]) : FnOk E nService_id nService_W := fn1_ok nService_hO mix nService_f nService_n nService_b (fun x0 hk => (nService_e _ x0).trans (h x0 hk))
theorem nService_ok : FnOk E nService_id nService_W := nService_ok_of fun s hk => by
  have hs : s.length ≤ 1000000 := by simpa [okNm1] using hk
  have e : okOfs s 122 125 = true := okOfs_iff.2 ⟨rfl, rfl, hs⟩
  simp only [nService_t, e, cond_true]
  rfl
theorem bytes_all {p : Nat → Bool} (h : (List.range 256).all p = true) (c : UInt8) : p c.toNat = true := List.all_eq_true.1 h _ (List.mem_range.2 c.toNat_lt)
end Go.Proofs.YtgniedpgdjmfpaaGreatDoor.Rf
namespace Go.Proofs.YtgniedpgdjmfpaaGreatDoor.Rf
open Go Go.RowKit Go.Sort Go.Proofs.YtgniedpgdjmfpaaGreatDoor.Mir
def memB (n : Node) (k : Int) : Bool := bif n.kind == k then decide ((n.kids.length : Int) ≤ 32) else false
def badKid (y : Node) : Bool := bif y.kind != 0 then (bif y.kind != 3 then true else decide ((0 : Int) < (y.keys.length : Int))) else false
def putAll (v : List UInt8 → Node) : List (List UInt8) → Node → Node
  | [], o => o
  | s :: t, o => putAll v t (withP o s (v s))
def failB (o : Node) (bad : Bool) : Bool := bif bad then true else decide ((32 : Int) < (o.keys.length : Int))
def dnV (o : Node) (bad : Bool) : Node := bif failB o bad then zn else sortP 12 ⟨3, o.text, o.keys, o.kids⟩
def dnE (o : Node) (bad : Bool) : Int := bif failB o bad then 10 else 0
def setL (n : Node) : List (List UInt8) := bif memB n 3 then n.keys else txsL n
def set0 (n : Node) : Bool := bif memB n 3 then n.kids.any badKid else !(txsB n)
def setF (n : Node) : Bool := set0 n || (setL n).any fun s => !(ofV s1B s2B s)
def setO (n : Node) : Node := putAll (fun _ => zn) (setL n) zn
def okSet (n : Node) : Bool := decide (n.keys.length ≤ 1000000) && decide (n.kids.length ≤ 1000000) && (setL n).all (fun s => decide (s.length ≤ 1000000))
def setVn (n : Node) : Node := dnV (setO n) (setF n)
def setEn (n : Node) : Int := dnE (setO n) (setF n)
noncomputable def nset_W : FnW E := fn12 (E := E) .api_Node .api_Node .api_Errno okSet setVn setEn
def nset_id : FuncId := 29
noncomputable def nset_O : Oracle E := withI (orac [(69, nService_W), (54, ndsorted_W 12), (52, nwith_W), (66, ntexts_W)] [] [] []) [(14, Tryz.f14), (17, Tryz.f17), (18, Tryz.f18), (20, Tryz.f20), (21, Tryz.f21)]
noncomputable def nset_H : Hint E := Hint.mk [(0, [2, 4, 5, 6, 21, 22, 23]), (1, [2, 4, 46, 47, 48])] [] [(1, [(4, some 2, false, .str), (4, some 3, false, .api_Node)])] [] []
noncomputable def nset_C0 (v0 : List (List UInt8)) (v1 : Bool) (v2 : List Node) (v3 v4 v5 : Int) (v6 : List UInt8) (v7 : Int) (v8 : List UInt8) (v9 : Bool) : ASt E := ASt.mk 63 [(2, .ptr 0 0), (4, .ptr 1 0), (5, .d (.slice .str v0)), (6, .d (.bool v1)), (21, .d (.slice .api_Node v2)), (22, .d (.int .i64 v3)), (23, .d (.int .i64 v4))] [(0, .box [.d (.int .i64 v5), .d (.str v6), .d (.raw (.slice none 0 0)), .d (.raw (.slice none 0 0))]), (1, .box [.d (.int .i64 v7), .d (.str v8), .d (.raw (.slice none 0 0)), .d (.raw (.slice none 0 0)), .d (.bool v9)])] 2
noncomputable def nset_C1 (v0 : List (List UInt8)) (v1 v2 v3 : Int) (v4 : List UInt8) (v5 : Int) (v6 : List UInt8) (v7 : List (List UInt8)) (v8 : List Node) (v9 : Bool) : ASt E := ASt.mk 63 [(2, .ptr 0 0), (4, .ptr 1 0), (46, .d (.slice .str v0)), (47, .d (.int .i64 v1)), (48, .d (.int .i64 v2))] [(0, .box [.d (.int .i64 v3), .d (.str v4), .d (.raw (.slice none 0 0)), .d (.raw (.slice none 0 0))]), (1, .box [.d (.int .i64 v5), .d (.str v6), .d (.slice .str v7), .d (.slice .api_Node v8), .d (.bool v9)])] 2
noncomputable def nset_t (G : Nat → ASt E → Option (List (TV E))) (x0 : Node) : Option (List (TV E)) :=
  bif (okTx ⟨x0.kind, x0.text, x0.keys, x0.kids⟩) then (bif (bif (x0.kind == (3 : Int)) then (decide ((x0.kids.length : Int) ≤ (32 : Int))) else false) then G 0 (nset_C0 x0.keys true x0.kids (x0.kids.length : Int) 0 0 [] 0 [] false) else G 1 (nset_C1 (txsL ⟨x0.kind, x0.text, x0.keys, x0.kids⟩) ((txsL ⟨x0.kind, x0.text, x0.keys, x0.kids⟩).length : Int) 0 0 [] 0 [] [] [] (bif false then true else (!(txsB ⟨x0.kind, x0.text, x0.keys, x0.kids⟩))))) else none
theorem nset_e (G : Nat → ASt E → Option (List (TV E))) (x0 : Node) : runE nset_O nset_H G Tryz.f29 [⟨.api_Node, x0⟩] = nset_t G x0 := by kernel_rfl
noncomputable def nset_t0 (G : Nat → ASt E → Option (List (TV E))) (v0 : List (List UInt8)) (v1 : Bool) (v2 : List Node) (v3 v4 v5 : Int) (v6 : List UInt8) (v7 : Int) (v8 : List UInt8) (v9 : Bool) : Option (List (TV E)) :=
  bif (decide (v4 < v3)) then (bif (decide ((0 : Int) ≤ v4) && decide (v4 < (v2.length : Int))) then G 0 (nset_C0 v0 v1 v2 v3 (w64 (v4 + (1 : Int))) v5 v6 v7 v8 (bif v9 then true else (bif ((List.getD v2 (Int.toNat v4) (dflt .api_Node)).kind != (0 : Int)) then (bif ((List.getD v2 (Int.toNat v4) (dflt .api_Node)).kind != (3 : Int)) then true else (decide ((0 : Int) < (((List.getD v2 (Int.toNat v4) (dflt .api_Node)).keys).length : Int)))) else false))) else none) else G 1 (nset_C1 v0 (v0.length : Int) 0 v5 v6 v7 v8 [] [] (bif v9 then true else (!v1)))
theorem nset_l0 (G : Nat → ASt E → Option (List (TV E))) (v0 : List (List UInt8)) (v1 : Bool) (v2 : List Node) (v3 v4 v5 : Int) (v6 : List UInt8) (v7 : Int) (v8 : List UInt8) (v9 : Bool) : runL nset_O nset_H G Tryz.f29 0 (nset_C0 v0 v1 v2 v3 v4 v5 v6 v7 v8 v9) = nset_t0 G v0 v1 v2 v3 v4 v5 v6 v7 v8 v9 := by kernel_rfl
noncomputable def nset_t1 (G : Nat → ASt E → Option (List (TV E))) (v0 : List (List UInt8)) (v1 v2 v3 : Int) (v4 : List UInt8) (v5 : Int) (v6 : List UInt8) (v7 : List (List UInt8)) (v8 : List Node) (v9 : Bool) : Option (List (TV E)) :=
  bif (decide (v2 < v1)) then (bif (decide ((0 : Int) ≤ v2) && decide (v2 < (v0.length : Int))) then (bif (okNm1 (List.getD v0 (Int.toNat v2) (dflt .str))) then (bif (okWp ⟨v5, v6, v7, v8⟩ (List.getD v0 (Int.toNat v2) (dflt .str)) ⟨0, [], [], []⟩) then G 1 (nset_C1 v0 v1 (w64 (v2 + (1 : Int))) v3 v4 ((withP ⟨v5, v6, v7, v8⟩ (List.getD v0 (Int.toNat v2) (dflt .str)) ⟨0, [], [], []⟩).kind) ((withP ⟨v5, v6, v7, v8⟩ (List.getD v0 (Int.toNat v2) (dflt .str)) ⟨0, [], [], []⟩).text) ((withP ⟨v5, v6, v7, v8⟩ (List.getD v0 (Int.toNat v2) (dflt .str)) ⟨0, [], [], []⟩).keys) ((withP ⟨v5, v6, v7, v8⟩ (List.getD v0 (Int.toNat v2) (dflt .str)) ⟨0, [], [], []⟩).kids) (bif v9 then true else (!((ofV s1B s2B) (List.getD v0 (Int.toNat v2) (dflt .str)))))) else none) else none) else none) else (bif (bif v9 then true else (decide ((32 : Int) < (v7.length : Int)))) then some [⟨.api_Node, (⟨0, [], [], []⟩ : Node)⟩, ⟨.api_Errno, (10 : Int)⟩] else (bif ((wg 10000 12) (⟨3, v6, v7, v8⟩ : Node)) then some [⟨.api_Node, (⟨((sortP 12) (⟨3, v6, v7, v8⟩ : Node)).kind, ((sortP 12) (⟨3, v6, v7, v8⟩ : Node)).text, ((sortP 12) (⟨3, v6, v7, v8⟩ : Node)).keys, ((sortP 12) (⟨3, v6, v7, v8⟩ : Node)).kids⟩ : Node)⟩, ⟨.api_Errno, (0 : Int)⟩] else none))
theorem nset_l1 (G : Nat → ASt E → Option (List (TV E))) (v0 : List (List UInt8)) (v1 v2 v3 : Int) (v4 : List UInt8) (v5 : Int) (v6 : List UInt8) (v7 : List (List UInt8)) (v8 : List Node) (v9 : Bool) : runL nset_O nset_H G Tryz.f29 1 (nset_C1 v0 v1 v2 v3 v4 v5 v6 v7 v8 v9) = nset_t1 G v0 v1 v2 v3 v4 v5 v6 v7 v8 v9 := by kernel_rfl
theorem nset_f : Tryz.prog.funcs[29]? = some Tryz.f29 := by kernel_rfl
theorem nset_n : (Tryz.f29.name == "runtime.NumGoroutine") = false := by kernel_rfl
theorem nset_b : Tryz.f29.body.isNone = false := by kernel_rfl
theorem nset_hO : OracleOk E nset_O := withI_ok (orac_ok (.cons nService_ok (.cons (ndsorted_ok 12) (.cons nwith_ok (.cons ntexts_ok .nil)))) .nil .nil .nil) mix (.cons (f := 14) (fn := Tryz.f14) (by kernel_rfl) (by kernel_rfl) (by kernel_rfl) (.cons (f := 17) (fn := Tryz.f17) (by kernel_rfl) (by kernel_rfl) (by kernel_rfl) (.cons (f := 18) (fn := Tryz.f18) (by kernel_rfl) (by kernel_rfl) (by kernel_rfl) (.cons (f := 20) (fn := Tryz.f20) (by kernel_rfl) (by kernel_rfl) (by kernel_rfl) (.cons (f := 21) (fn := Tryz.f21) (by kernel_rfl) (by kernel_rfl) (by kernel_rfl) .nil)))))
theorem nset_s0 {res : List (TV E)} {v0 : List (List UInt8)} {v1 : Bool} {v2 : List Node} {v3 v4 v5 : Int} {v6 : List UInt8} {v7 : Int} {v8 : List UInt8} {v9 : Bool} (h : nset_t0 (Gr E Tryz.f29 res) v0 v1 v2 v3 v4 v5 v6 v7 v8 v9 = some res) : Ev E Tryz.f29 res 0 (nset_C0 v0 v1 v2 v3 v4 v5 v6 v7 v8 v9) := Ev.step nset_hO mix ((nset_l0 _ v0 v1 v2 v3 v4 v5 v6 v7 v8 v9).trans h)
theorem nset_s1 {res : List (TV E)} {v0 : List (List UInt8)} {v1 v2 v3 : Int} {v4 : List UInt8} {v5 : Int} {v6 : List UInt8} {v7 : List (List UInt8)} {v8 : List Node} {v9 : Bool} (h : nset_t1 (Gr E Tryz.f29 res) v0 v1 v2 v3 v4 v5 v6 v7 v8 v9 = some res) : Ev E Tryz.f29 res 1 (nset_C1 v0 v1 v2 v3 v4 v5 v6 v7 v8 v9) := Ev.step nset_hO mix ((nset_l1 _ v0 v1 v2 v3 v4 v5 v6 v7 v8 v9).trans h)
theorem nset_ok_of (h : ∀ (x0 : Node), okSet x0 = true → nset_t (Gr E Tryz.f29 [⟨.api_Node, setVn x0⟩, ⟨.api_Errno, setEn x0⟩]) x0 = some [⟨.api_Node, setVn x0⟩, ⟨.api_Errno, setEn x0⟩]) : FnOk E nset_id nset_W := fn12_ok nset_hO mix nset_f nset_n nset_b (fun x0 hk => (nset_e _ x0).trans (h x0 hk))
structure Gt (o : Node) (L : Nat) : Prop where
  kind : o.kind = 0 ∨ o.kind = 3
  len : o.keys.length = o.kids.length
  le : o.keys.length ≤ L
  kids : ∀ y ∈ o.kids, wg 10000 11 y = true
theorem Gt.nil : Gt zn 0 := ⟨.inl rfl, rfl, Nat.le_refl _, fun y h => by cases h⟩
theorem Gt.okW {o : Node} {L : Nat} (h : Gt o L) (hL : L ≤ 1000000) (k : List UInt8) (v : Node) : okWp o k v = true := fit_iff.2 ⟨⟨by have := h.le; show o.keys.length ≤ 1000000; omega, by have := h.le; have := h.len; show o.kids.length ≤ 1000000; omega⟩, fun _ => h.len⟩
theorem Gt.put {o : Node} {L : Nat} (h : Gt o L) {k : List UInt8} {v : Node} (hv : wg 10000 11 v = true) : Gt (withP o k v) (L + 1) := by
  have hc : (bif o.kind != 3 then o.kind != 0 else false) = false := by rcases h.kind with e | e <;> rw [e] <;> rfl
  unfold withP
  rw [hc, cond_false]
  have hl := h.len
  have hle := h.le
  by_cases h0 : 0 ≤ index o.keys k
  · rw [dT h0, cond_true]
    refine ⟨.inr rfl, by simpa using hl, Nat.le_succ_of_le hle, fun y hy => ?_⟩
    rcases List.mem_or_eq_of_mem_set hy with hy | rfl
    · exact h.kids y hy
    · exact hv
  · rw [dF h0, cond_false]
    refine ⟨.inr rfl, by simpa using hl, by simpa using hle, fun y hy => ?_⟩
    rcases List.mem_append.1 hy with hy | hy
    · exact h.kids y hy
    · rw [List.mem_singleton.1 hy]; exact hv
theorem Gt.wg {o : Node} {L : Nat} (h : Gt o L) {bad : Bool} (hf : failB o bad = false) : wg 10000 12 ⟨3, o.text, o.keys, o.kids⟩ = true := by
  have hk : o.keys.length ≤ 32 := by
    unfold failB at hf
    cases bad with
    | true => cases hf
    | false =>
      simp only [cond_false, decide_eq_false_iff_not] at hf
      omega
  exact wg_iff.2 ⟨by show o.keys.length ≤ 10000; omega, by have := h.len; show o.kids.length ≤ 10000; omega, fun _ => h.len, h.kids⟩
theorem nset_1 (l : List (List UInt8)) (hl : l.length ≤ 1000000) (hs : ∀ s ∈ l, s.length ≤ 1000000) (u3 : Int) (u4 : List UInt8) : ∀ (m i : Nat) (o : Node) (bad : Bool), l.length - i = m → i ≤ l.length → Gt o i →
    Ev E Tryz.f29 [⟨.api_Node, dnV (putAll (fun _ => zn) (l.drop i) o) (bad || (l.drop i).any fun s => !(ofV s1B s2B s))⟩, ⟨.api_Errno, dnE (putAll (fun _ => zn) (l.drop i) o) (bad || (l.drop i).any fun s => !(ofV s1B s2B s))⟩] 1 (nset_C1 l l.length i u3 u4 o.kind o.text o.keys o.kids bad) := by
  intro m
  induction m with
  | zero =>
    intro i o bad h1 h2 h3
    refine nset_s1 ?_
    simp only [nset_t1, dge (show l.length ≤ i by omega), cond_false, List.drop_eq_nil_of_le (show l.length ≤ i by omega), putAll, List.any_nil, Bool.or_false, dnV, dnE, node_eta]
    cases hf : failB o bad with
    | true =>
      have hf' : (bif bad then true else decide ((32 : Int) < (o.keys.length : Int))) = true := hf
      rw [hf']; rfl
    | false =>
      have hf' : (bif bad then true else decide ((32 : Int) < (o.keys.length : Int))) = false := hf
      rw [hf', h3.wg hf]; rfl
  | succ m ih =>
    intro i o bad h1 h2 h3
    have hi : i < l.length := by omega
    have e3 : w64 ((i : Int) + 1) = ((i + 1 : Nat) : Int) := by rw [w64_id (by omega) (by omega)]; omega
    have e4 : okNm1 l[i] = true := decide_eq_true (hs _ (List.getElem_mem hi))
    refine nset_s1 ?_
    simp only [nset_t1, dlt hi, d0, gd l _ i hi, Bool.and_self, cond_true, e3, e4, node_eta, h3.okW (by omega)]
    have := Gr_of (ih (i + 1) (withP o l[i] zn) (bif bad then true else !(ofV s1B s2B l[i])) (by omega) (by omega) (h3.put rfl))
    rw [← List.getElem_cons_drop hi]
    simp only [putAll, List.any_cons]
    have eb : (bad || (!(ofV s1B s2B l[i]) || (l.drop (i + 1)).any fun s => !(ofV s1B s2B s))) = ((bif bad then true else !(ofV s1B s2B l[i])) || (l.drop (i + 1)).any fun s => !(ofV s1B s2B s)) := by
      cases bad <;> rfl
    rw [eb]
    exact this
theorem nset_0 (n : Node) (hl : n.keys.length ≤ 1000000) (hk : n.kids.length ≤ 1000000) (hs : ∀ s ∈ n.keys, s.length ≤ 1000000) (u5 : Int) (u6 : List UInt8) : ∀ (m i : Nat) (bad : Bool), n.kids.length - i = m → i ≤ n.kids.length →
    Ev E Tryz.f29 [⟨.api_Node, dnV (putAll (fun _ => zn) n.keys zn) ((bad || (n.kids.drop i).any badKid) || n.keys.any fun s => !(ofV s1B s2B s))⟩, ⟨.api_Errno, dnE (putAll (fun _ => zn) n.keys zn) ((bad || (n.kids.drop i).any badKid) || n.keys.any fun s => !(ofV s1B s2B s))⟩] 0 (nset_C0 n.keys true n.kids n.kids.length i u5 u6 0 [] bad) := by
  intro m
  induction m with
  | zero =>
    intro i bad h1 h2
    refine nset_s0 ?_
    simp only [nset_t0, dge (show n.kids.length ≤ i by omega), cond_false, List.drop_eq_nil_of_le (show n.kids.length ≤ i by omega), List.any_nil, Bool.or_false, Bool.not_true]
    have := Gr_of (nset_1 n.keys hl hs u5 u6 n.keys.length 0 zn bad rfl (Nat.zero_le _) Gt.nil)
    rw [List.drop_zero] at this
    have eb : (bif bad then true else false) = bad := by cases bad <;> rfl
    rw [eb]
    exact this
  | succ m ih =>
    intro i bad h1 h2
    have hi : i < n.kids.length := by omega
    have e3 : w64 ((i : Int) + 1) = ((i + 1 : Nat) : Int) := by rw [w64_id (by omega) (by omega)]; omega
    refine nset_s0 ?_
    simp only [nset_t0, dlt hi, d0, gd n.kids _ i hi, Bool.and_self, cond_true, e3]
    have := Gr_of (ih (i + 1) (bif bad then true else badKid n.kids[i]) (by omega) (by omega))
    rw [← List.getElem_cons_drop hi]
    simp only [List.any_cons]
    have eb : (bad || (badKid n.kids[i] || (n.kids.drop (i + 1)).any badKid)) = ((bif bad then true else badKid n.kids[i]) || (n.kids.drop (i + 1)).any badKid) := by
      cases bad <;> rfl
    rw [eb]
    exact this
theorem txsV_len : ∀ (l : List Node) (t : List (List UInt8)), txsV l = some t → t.length ≤ l.length
  | [], t, h => by cases h; exact Nat.zero_le _
  | x :: r, t, h => by
    unfold txsV at h
    cases hb : x.kind != 1 with
    | true => rw [hb] at h; cases h
    | false =>
      rw [hb, cond_false] at h
      cases hr : txsV r with
      | none => rw [hr] at h; cases h
      | some q =>
        rw [hr] at h
        cases h
        have := txsV_len r q hr
        simp only [List.length_cons]; omega
theorem txsL_len (n : Node) : (txsL n).length ≤ n.kids.length := by
  unfold txsL
  cases h : txsV n.kids with
  | none => exact Nat.zero_le _
  | some t => exact txsV_len _ _ h
theorem nset_ok : FnOk E nset_id nset_W := nset_ok_of fun n hk => by
  simp only [okSet, Bool.and_eq_true, decide_eq_true_eq, List.all_eq_true] at hk
  obtain ⟨⟨h1, h2⟩, h3⟩ := hk
  have e1 : okTx n = true := decide_eq_true h2
  simp only [nset_t, node_eta, e1, cond_true]
  unfold setVn setEn setF setO setL set0 at *
  change (bif memB n 3 then _ else _) = _
  cases hm : memB n 3 with
  | true =>
    simp only [hm, cond_true] at h3 ⊢
    have := Gr_of (nset_0 n h1 h2 h3 0 [] n.kids.length 0 false (by omega) (Nat.zero_le _))
    rw [List.drop_zero] at this
    exact this
  | false =>
    simp only [hm, cond_false] at h3 ⊢
    have := Gr_of (nset_1 (txsL n) (Nat.le_trans (txsL_len n) h2) h3 0 [] (txsL n).length 0 zn (!(txsB n)) rfl (Nat.zero_le _) Gt.nil)
    rw [List.drop_zero] at this
    exact this
end Go.Proofs.YtgniedpgdjmfpaaGreatDoor.Rf
namespace Go.Proofs.YtgniedpgdjmfpaaGreatDoor.Mir
open Go Go.RowKit
section
variable {P : Program} {E : Env P} {O : Oracle E} {masks : Hint E} {f : FuncId} {fn : Func}
def fn13 (a0 t0 t1 t2 : E.Ty) (ok : E.Den a0 → Bool) (F0 : E.Den a0 → E.Den t0) (F1 : E.Den a0 → E.Den t1) (F2 : E.Den a0 → E.Den t2) : FnW E
  | [x0] => match castV a0 x0 with
    | some x0 => some (ok x0, [⟨t0, F0 x0⟩, ⟨t1, F1 x0⟩, ⟨t2, F2 x0⟩])
    | _ => none
  | _ => none
theorem fn13_ok {a0 t0 t1 t2 : E.Ty} {ok : E.Den a0 → Bool} {F0 : E.Den a0 → E.Den t0} {F1 : E.Den a0 → E.Den t1} {F2 : E.Den a0 → E.Den t2} (hO : OracleOk E O) (hmix : P.follows .mixedOrders = true) (hf : P.funcs[f]? = some fn) (hn : (fn.name == "runtime.NumGoroutine") = false) (hb : fn.body.isNone = false)
    (h : ∀ x0, ok x0 = true → runE O masks (Gr E fn [⟨t0, F0 x0⟩, ⟨t1, F1 x0⟩, ⟨t2, F2 x0⟩]) fn [⟨a0, x0⟩] = some [⟨t0, F0 x0⟩, ⟨t1, F1 x0⟩, ⟨t2, F2 x0⟩]) : FnOk E f (fn13 a0 t0 t1 t2 ok F0 F1 F2) := by
  refine fnOk_of (masks := masks) hO hmix hf hn hb fun args res hr => ?_
  unfold fn13 at hr
  split at hr
  · split at hr
    · rename_i hx0
      injection hr with hr
      injection hr with h1 h2
      subst h2
      rw [castV_eq hx0]
      exact h _ h1
    · cases hr
  · cases hr
def fn14 (a0 t0 t1 t2 t3 : E.Ty) (ok : E.Den a0 → Bool) (F0 : E.Den a0 → E.Den t0) (F1 : E.Den a0 → E.Den t1) (F2 : E.Den a0 → E.Den t2) (F3 : E.Den a0 → E.Den t3) : FnW E
  | [x0] => match castV a0 x0 with
    | some x0 => some (ok x0, [⟨t0, F0 x0⟩, ⟨t1, F1 x0⟩, ⟨t2, F2 x0⟩, ⟨t3, F3 x0⟩])
    | _ => none
  | _ => none
theorem fn14_ok {a0 t0 t1 t2 t3 : E.Ty} {ok : E.Den a0 → Bool} {F0 : E.Den a0 → E.Den t0} {F1 : E.Den a0 → E.Den t1} {F2 : E.Den a0 → E.Den t2} {F3 : E.Den a0 → E.Den t3} (hO : OracleOk E O) (hmix : P.follows .mixedOrders = true) (hf : P.funcs[f]? = some fn) (hn : (fn.name == "runtime.NumGoroutine") = false) (hb : fn.body.isNone = false)
    (h : ∀ x0, ok x0 = true → runE O masks (Gr E fn [⟨t0, F0 x0⟩, ⟨t1, F1 x0⟩, ⟨t2, F2 x0⟩, ⟨t3, F3 x0⟩]) fn [⟨a0, x0⟩] = some [⟨t0, F0 x0⟩, ⟨t1, F1 x0⟩, ⟨t2, F2 x0⟩, ⟨t3, F3 x0⟩]) : FnOk E f (fn14 a0 t0 t1 t2 t3 ok F0 F1 F2 F3) := by
  refine fnOk_of (masks := masks) hO hmix hf hn hb fun args res hr => ?_
  unfold fn14 at hr
  split at hr
  · split at hr
    · rename_i hx0
      injection hr with hr
      injection hr with h1 h2
      subst h2
      rw [castV_eq hx0]
      exact h _ h1
    · cases hr
  · cases hr
def fn23 (a0 a1 t0 t1 t2 : E.Ty) (ok : E.Den a0 → E.Den a1 → Bool) (F0 : E.Den a0 → E.Den a1 → E.Den t0) (F1 : E.Den a0 → E.Den a1 → E.Den t1) (F2 : E.Den a0 → E.Den a1 → E.Den t2) : FnW E
  | [x0, x1] => match castV a0 x0, castV a1 x1 with
    | some x0, some x1 => some (ok x0 x1, [⟨t0, F0 x0 x1⟩, ⟨t1, F1 x0 x1⟩, ⟨t2, F2 x0 x1⟩])
    | _, _ => none
  | _ => none
theorem fn23_ok {a0 a1 t0 t1 t2 : E.Ty} {ok : E.Den a0 → E.Den a1 → Bool} {F0 : E.Den a0 → E.Den a1 → E.Den t0} {F1 : E.Den a0 → E.Den a1 → E.Den t1} {F2 : E.Den a0 → E.Den a1 → E.Den t2} (hO : OracleOk E O) (hmix : P.follows .mixedOrders = true) (hf : P.funcs[f]? = some fn) (hn : (fn.name == "runtime.NumGoroutine") = false) (hb : fn.body.isNone = false)
    (h : ∀ x0 x1, ok x0 x1 = true → runE O masks (Gr E fn [⟨t0, F0 x0 x1⟩, ⟨t1, F1 x0 x1⟩, ⟨t2, F2 x0 x1⟩]) fn [⟨a0, x0⟩, ⟨a1, x1⟩] = some [⟨t0, F0 x0 x1⟩, ⟨t1, F1 x0 x1⟩, ⟨t2, F2 x0 x1⟩]) : FnOk E f (fn23 a0 a1 t0 t1 t2 ok F0 F1 F2) := by
  refine fnOk_of (masks := masks) hO hmix hf hn hb fun args res hr => ?_
  unfold fn23 at hr
  split at hr
  · split at hr
    · rename_i hx0 hx1
      injection hr with hr
      injection hr with h1 h2
      subst h2
      rw [castV_eq hx0, castV_eq hx1]
      exact h _ _ h1
    · cases hr
  · cases hr
def fn32 (a0 a1 a2 t0 t1 : E.Ty) (ok : E.Den a0 → E.Den a1 → E.Den a2 → Bool) (F0 : E.Den a0 → E.Den a1 → E.Den a2 → E.Den t0) (F1 : E.Den a0 → E.Den a1 → E.Den a2 → E.Den t1) : FnW E
  | [x0, x1, x2] => match castV a0 x0, castV a1 x1, castV a2 x2 with
    | some x0, some x1, some x2 => some (ok x0 x1 x2, [⟨t0, F0 x0 x1 x2⟩, ⟨t1, F1 x0 x1 x2⟩])
    | _, _, _ => none
  | _ => none
theorem fn32_ok {a0 a1 a2 t0 t1 : E.Ty} {ok : E.Den a0 → E.Den a1 → E.Den a2 → Bool} {F0 : E.Den a0 → E.Den a1 → E.Den a2 → E.Den t0} {F1 : E.Den a0 → E.Den a1 → E.Den a2 → E.Den t1} (hO : OracleOk E O) (hmix : P.follows .mixedOrders = true) (hf : P.funcs[f]? = some fn) (hn : (fn.name == "runtime.NumGoroutine") = false) (hb : fn.body.isNone = false)
    (h : ∀ x0 x1 x2, ok x0 x1 x2 = true → runE O masks (Gr E fn [⟨t0, F0 x0 x1 x2⟩, ⟨t1, F1 x0 x1 x2⟩]) fn [⟨a0, x0⟩, ⟨a1, x1⟩, ⟨a2, x2⟩] = some [⟨t0, F0 x0 x1 x2⟩, ⟨t1, F1 x0 x1 x2⟩]) : FnOk E f (fn32 a0 a1 a2 t0 t1 ok F0 F1) := by
  refine fnOk_of (masks := masks) hO hmix hf hn hb fun args res hr => ?_
  unfold fn32 at hr
  split at hr
  · split at hr
    · rename_i hx0 hx1 hx2
      injection hr with hr
      injection hr with h1 h2
      subst h2
      rw [castV_eq hx0, castV_eq hx1, castV_eq hx2]
      exact h _ _ _ h1
    · cases hr
  · cases hr
def fn4 (a0 a1 a2 a3 t0 : E.Ty) (ok : E.Den a0 → E.Den a1 → E.Den a2 → E.Den a3 → Bool) (F0 : E.Den a0 → E.Den a1 → E.Den a2 → E.Den a3 → E.Den t0) : FnW E
  | [x0, x1, x2, x3] => match castV a0 x0, castV a1 x1, castV a2 x2, castV a3 x3 with
    | some x0, some x1, some x2, some x3 => some (ok x0 x1 x2 x3, [⟨t0, F0 x0 x1 x2 x3⟩])
    | _, _, _, _ => none
  | _ => none
end
end Go.Proofs.YtgniedpgdjmfpaaGreatDoor.Mir
namespace Go.Proofs.YtgniedpgdjmfpaaGreatDoor.Rf
open Go Go.RowKit Go.Sort Go.Proofs.YtgniedpgdjmfpaaGreatDoor.Mir
theorem fn2_kit {f : FuncId} {a b t : E.Ty} {ok : E.Den a → E.Den b → Bool} {F : E.Den a → E.Den b → E.Den t} (ex : ∃ fn, Tryz.prog.funcs[f]? = some fn ∧ (fn.name == "runtime.NumGoroutine") = false ∧ fn.body.isNone = false) (h : ∀ x y, ok x y = true → CallsOk E f [⟨a, x⟩, ⟨b, y⟩] [⟨t, F x y⟩]) : FnOk E f (fn2 a b t ok F) :=
  ⟨ex, fun args r hr => by
    unfold fn2 at hr
    split at hr
    · split at hr
      · rename_i x hx
        split at hr
        · rename_i y hy
          injection hr with hr
          injection hr with h1 h2
          subst h2
          rw [castV_eq hx, castV_eq hy]
          exact h _ _ h1
        · cases hr
      · cases hr
    · cases hr⟩
def okIx (s p : List UInt8) : Bool := decide (s.length ≤ 1000000) && decide (p.length = 1)
def ixV (s p : List UInt8) : Int := Lib.indexByte s (p.headD 0)
noncomputable def sindex_W : FnW E := fn2 (E := E) .str .str .int okIx ixV
def sindex_id : FuncId := 152
theorem sindex_ok : FnOk E sindex_id sindex_W := fn2_kit ⟨Tryz.f152, by kernel_rfl, by kernel_rfl, by kernel_rfl⟩ fun s p hk => by
  simp only [okIx, Bool.and_eq_true, decide_eq_true_eq] at hk
  obtain ⟨c, rfl⟩ : ∃ c, p = [c] := by
    match p, hk.2 with
    | [c], _ => exact ⟨c, rfl⟩
  intro w ro vals hargs hrolt
  match vals, hargs with
  | [u, v], ⟨h1, h2, _⟩ =>
    have e1 : u = .string ⟨s.toArray⟩ := by
      rcases h1 with ⟨ha, _⟩ | ⟨_, d, hd, hr⟩
      · cases ha
      · have hd : ([.str s] : List (DVal E.Den)) = [d] := hd
        injection hd with hd _
        subst hd
        cases hr; rfl
    have e2 : v = .string ⟨[c].toArray⟩ := by
      rcases h2 with ⟨ha, _⟩ | ⟨_, d, hd, hr⟩
      · cases ha
      · have hd : ([.str [c]] : List (DVal E.Den)) = [d] := hd
        injection hd with hd _
        subst hd
        cases hr; rfl
    subst e1; subst e2
    refine (Tryz.stringslite_Index_one ⟨s.toArray⟩ c w).mono fun e w' he => ?_
    obtain ⟨he, rfl⟩ := he
    refine ⟨_, he, Below.refl _ _, .inr ⟨rfl, .int .i64 (ixV s [c]), rfl, ?_⟩⟩
    exact .int .i64 (Lib.indexByte s c)
theorem ix_ge (s : List UInt8) (c : UInt8) : Lib.indexByte s c < 0 ∨ ∃ i : Nat, Lib.indexByte s c = i ∧ i < s.length := by
  induction s with
  | nil => exact .inl (show (-1 : Int) < 0 by decide)
  | cons a t ih =>
    unfold Lib.indexByte
    split
    · exact .inr ⟨0, rfl, by simp⟩
    · rcases ih with h | ⟨i, h1, h2⟩
      · left
        split
        · decide
        · have := Lib.indexByte_ge t c
          rename_i hne
          exfalso
          have : Lib.indexByte t c = -1 := by omega
          rw [this] at hne
          exact hne rfl
      · right
        split
        · rename_i he
          rw [h1] at he
          have : (i : Int) = -1 := (beq_iff_eq.1 he)
          omega
        · exact ⟨i + 1, by rw [h1]; omega, by simp; omega⟩
def cutA (s p : List UInt8) : List UInt8 := bif decide (0 ≤ ixV s p) then s.take (ixV s p).toNat else s
def cutB (s p : List UInt8) : List UInt8 := bif decide (0 ≤ ixV s p) then s.drop ((ixV s p).toNat + 1) else []
def cutC (s p : List UInt8) : Bool := decide (0 ≤ ixV s p)
noncomputable def lcut_W : FnW E := fn23 (E := E) .str .str .str .str .bool okIx cutA cutB cutC
def lcut_id : FuncId := 108
noncomputable def lcut_O : Oracle E := orac [(152, sindex_W)] [] [] []
noncomputable def lcut_H : Hint E := Hint.mk [] [] [] [] []
noncomputable def lcut_t (_G : Nat → ASt E → Option (List (TV E))) (x0 x1 : List UInt8) : Option (List (TV E)) :=
  bif (okIx x0 x1) then (bif (decide ((0 : Int) ≤ (ixV x0 x1))) then (bif (decide ((0 : Int) ≤ (0 : Int)) && decide ((0 : Int) ≤ (ixV x0 x1)) && decide ((ixV x0 x1) ≤ (x0.length : Int))) then (bif (decide ((0 : Int) ≤ (w64 ((ixV x0 x1) + (x1.length : Int)))) && decide ((w64 ((ixV x0 x1) + (x1.length : Int))) ≤ (x0.length : Int)) && decide ((x0.length : Int) ≤ (x0.length : Int))) then some [⟨.str, (List.take (Int.toNat (ixV x0 x1) - Int.toNat 0) (List.drop (Int.toNat 0) x0))⟩, ⟨.str, (List.take (Int.toNat (x0.length : Int) - Int.toNat (w64 ((ixV x0 x1) + (x1.length : Int)))) (List.drop (Int.toNat (w64 ((ixV x0 x1) + (x1.length : Int)))) x0))⟩, ⟨.bool, true⟩] else none) else none) else some [⟨.str, x0⟩, ⟨.str, ([] : List UInt8)⟩, ⟨.bool, false⟩]) else none
theorem lcut_e (G : Nat → ASt E → Option (List (TV E))) (x0 : List UInt8) (x1 : List UInt8) : runE lcut_O lcut_H G Tryz.f108 [⟨.str, x0⟩, ⟨.str, x1⟩] = lcut_t G x0 x1 := by kernel_rfl
theorem lcut_f : Tryz.prog.funcs[108]? = some Tryz.f108 := by kernel_rfl
theorem lcut_n : (Tryz.f108.name == "runtime.NumGoroutine") = false := by kernel_rfl
theorem lcut_b : Tryz.f108.body.isNone = false := by kernel_rfl
theorem lcut_hO : OracleOk E lcut_O := orac_ok (.cons sindex_ok .nil) .nil .nil .nil
theorem lcut_ok_of (h : ∀ (x0 : List UInt8) (x1 : List UInt8), okIx x0 x1 = true → lcut_t (Gr E Tryz.f108 [⟨.str, cutA x0 x1⟩, ⟨.str, cutB x0 x1⟩, ⟨.bool, cutC x0 x1⟩]) x0 x1 = some [⟨.str, cutA x0 x1⟩, ⟨.str, cutB x0 x1⟩, ⟨.bool, cutC x0 x1⟩]) : FnOk E lcut_id lcut_W := fn23_ok lcut_hO mix lcut_f lcut_n lcut_b (fun x0 x1 hk => (lcut_e _ x0 x1).trans (h x0 x1 hk))
theorem lcut_ok : FnOk E lcut_id lcut_W := lcut_ok_of fun s p hk => by
  have hk' := hk
  simp only [okIx, Bool.and_eq_true, decide_eq_true_eq] at hk'
  obtain ⟨hs, hp⟩ := hk'
  simp only [lcut_t, hk, cond_true, cutA, cutB, cutC]
  rcases ix_ge s (p.headD 0) with h | ⟨i, h1, h2⟩
  · have h : ¬ 0 ≤ ixV s p := by unfold ixV; omega
    rw [dF h]; rfl
  · have e : ixV s p = (i : Int) := h1
    have e3 : w64 ((i : Int) + (p.length : Int)) = ((i + 1 : Nat) : Int) := by rw [hp, w64_id (by omega) (by omega)]; omega
    have c1 : List.take (Int.toNat (i : Int) - Int.toNat 0) (List.drop (Int.toNat 0) s) = s.take (Int.toNat (i : Int)) := by simp
    have c2 : List.take (Int.toNat (s.length : Int) - Int.toNat ((i + 1 : Nat) : Int)) (List.drop (Int.toNat ((i + 1 : Nat) : Int)) s) = s.drop (Int.toNat (i : Int) + 1) := by
      rw [Int.toNat_natCast, Int.toNat_natCast, Int.toNat_natCast]
      exact List.take_of_length_le (by rw [List.length_drop]; omega)
    rw [e, e3, c1, c2, dT (show (0 : Int) ≤ (i : Int) by omega), dT (show (i : Int) ≤ (s.length : Int) by omega), dT (show (0 : Int) ≤ ((i + 1 : Nat) : Int) by omega), dT (show ((i + 1 : Nat) : Int) ≤ (s.length : Int) by omega), dT (show (s.length : Int) ≤ (s.length : Int) by omega)]
    rfl
noncomputable def scut_W : FnW E := fn23 (E := E) .str .str .str .str .bool okIx cutA cutB cutC
def scut_id : FuncId := 49
noncomputable def scut_O : Oracle E := orac [(108, lcut_W)] [] [] []
noncomputable def scut_H : Hint E := Hint.mk [] [] [] [] []
noncomputable def scut_t (_G : Nat → ASt E → Option (List (TV E))) (x0 x1 : List UInt8) : Option (List (TV E)) :=
  bif (okIx x0 x1) then some [⟨.str, (cutA x0 x1)⟩, ⟨.str, (cutB x0 x1)⟩, ⟨.bool, (cutC x0 x1)⟩] else none
theorem scut_e (G : Nat → ASt E → Option (List (TV E))) (x0 : List UInt8) (x1 : List UInt8) : runE scut_O scut_H G Tryz.f49 [⟨.str, x0⟩, ⟨.str, x1⟩] = scut_t G x0 x1 := by kernel_rfl
theorem scut_f : Tryz.prog.funcs[49]? = some Tryz.f49 := by kernel_rfl
theorem scut_n : (Tryz.f49.name == "runtime.NumGoroutine") = false := by kernel_rfl
theorem scut_b : Tryz.f49.body.isNone = false := by kernel_rfl
theorem scut_hO : OracleOk E scut_O := orac_ok (.cons lcut_ok .nil) .nil .nil .nil
theorem scut_ok_of (h : ∀ (x0 : List UInt8) (x1 : List UInt8), okIx x0 x1 = true → scut_t (Gr E Tryz.f49 [⟨.str, cutA x0 x1⟩, ⟨.str, cutB x0 x1⟩, ⟨.bool, cutC x0 x1⟩]) x0 x1 = some [⟨.str, cutA x0 x1⟩, ⟨.str, cutB x0 x1⟩, ⟨.bool, cutC x0 x1⟩]) : FnOk E scut_id scut_W := fn23_ok scut_hO mix scut_f scut_n scut_b (fun x0 x1 hk => (scut_e _ x0 x1).trans (h x0 x1 hk))
theorem scut_ok : FnOk E scut_id scut_W := scut_ok_of fun s p hk => by
  simp only [scut_t, hk, cond_true]
end Go.Proofs.YtgniedpgdjmfpaaGreatDoor.Rf
namespace Go.Proofs.YtgniedpgdjmfpaaGreatDoor.Rf
open Go Go.RowKit Go.Sort Go.Proofs.YtgniedpgdjmfpaaGreatDoor.Mir
theorem txt1_wg (s : List UInt8) : wg 10000 11 (txt1 s) = true := by simp [txt1, wg]
theorem Gt.fit {o : Node} {L : Nat} (h : Gt o L) (hL : L ≤ 1000000) : fit o = true := fit_iff.2 ⟨⟨by have := h.le; omega, by have := h.le; have := h.len; omega⟩, fun _ => h.len⟩
end Go.Proofs.YtgniedpgdjmfpaaGreatDoor.Rf
namespace Go.Proofs.YtgniedpgdjmfpaaGreatDoor.Rf
open Go Go.RowKit Go.Sort Go.Proofs.YtgniedpgdjmfpaaGreatDoor.Mir
def wKids (k : List UInt8) (v : Node) : List (List UInt8) → List Node → List Node
  | a :: t, x :: w => (bif a == k then v else x) :: wKids k v t w
  | _, _ => []
theorem wKids_len (k : List UInt8) (v : Node) : ∀ (ks : List (List UInt8)) (vs : List Node), ks.length = vs.length → (wKids k v ks vs).length = ks.length
  | [], [], _ => rfl
  | a :: t, x :: w, h => by simp only [wKids, List.length_cons]; rw [wKids_len k v t w (by simpa using h)]
  | [], _ :: _, h => by simp at h
  | _ :: _, [], h => by simp at h
theorem wKids_mem (k : List UInt8) (v : Node) : ∀ (ks : List (List UInt8)) (vs : List Node) (y : Node), y ∈ wKids k v ks vs → y = v ∨ y ∈ vs
  | [], vs, y, h => by simp [wKids] at h
  | _ :: _, [], y, h => by simp [wKids] at h
  | a :: t, x :: w, y, h => by
    simp only [wKids, List.mem_cons] at h
    rcases h with h | h
    · cases hb : a == k with
      | true => rw [hb] at h; exact .inl h
      | false => rw [hb] at h; exact .inr (by rw [h]; exact List.mem_cons_self)
    · rcases wKids_mem k v t w y h with h | h
      · exact .inl h
      · exact .inr (List.mem_cons_of_mem _ h)
def newK (th : Bool) (k : List UInt8) : List (List UInt8) := bif th then [] else [k]
def newV (th : Bool) (v : Node) : List Node := bif th then [] else [v]
def withV (x : Node) (k : List UInt8) (v : Node) : Node := bif (bif x.kind != 0 then x.kind != 3 else false) then x else ⟨3, [], x.keys ++ newK (inV x.keys k) k, wKids k v x.keys x.kids ++ newV (inV x.keys k) v⟩
def okWi (x : Node) (_ : List UInt8) (_ : Node) : Bool := decide (x.keys.length ≤ 100000) && decide (x.keys.length = x.kids.length)
theorem okWi_iff {x : Node} {k : List UInt8} {v : Node} : okWi x k v = true ↔ x.keys.length ≤ 100000 ∧ x.keys.length = x.kids.length := by simp [okWi]
noncomputable def rwith_W : FnW E := fn3 (E := E) .api_Node .str .api_Node .api_Node okWi withV
def rwith_id : FuncId := 92
noncomputable def rwith_O : Oracle E := orac [] [] [] []
noncomputable def rwith_H : Hint E := Hint.mk [(0, [1, 3, 5, 6, 7, 8, 9])] [] [(0, [(7, some 2, true, .str), (7, some 3, true, .api_Node)])] [] []
noncomputable def rwith_C0 (v0 : List UInt8) (v1 : Bool) (v2 v3 : Int) (v4 : List UInt8) (v5 : List (List UInt8)) (v6 : List Node) (v7 : Int) (v8 : List UInt8) (v9 : List (List UInt8)) (v10 : List Node) (v11 : Int) (v12 : List UInt8) (v13 : Int) (v14 : List UInt8) (v15 : List (List UInt8)) (v16 : List Node) : ASt E := ASt.mk 75 [(1, .d (.str v0)), (3, .ptr 0 0), (5, .ptr 1 0), (6, .ptr 2 0), (7, .ptr 3 0), (8, .d (.bool v1)), (9, .d (.int .i64 v2))] [(0, .box [.d (.int .i64 v3), .d (.str v4), .d (.slice .str v5), .d (.slice .api_Node v6)]), (1, .box [.d (.int .i64 v7), .d (.str v8), .d (.slice .str v9), .d (.slice .api_Node v10)]), (2, .box [.d (.int .i64 v11), .d (.str v12), .d (.raw (.slice none 0 0)), .d (.raw (.slice none 0 0))]), (3, .box [.d (.int .i64 v13), .d (.str v14), .grow .str v15 4, .grow .api_Node v16 5]), (4, .tail true), (5, .tail true)] 6
noncomputable def rwith_t (G : Nat → ASt E → Option (List (TV E))) (x0 : Node) (x1 : List UInt8) (x2 : Node) : Option (List (TV E)) :=
  bif (bif (x0.kind != (0 : Int)) then (x0.kind != (3 : Int)) else false) then some [⟨.api_Node, (⟨x0.kind, x0.text, x0.keys, x0.kids⟩ : Node)⟩] else G 0 (rwith_C0 x1 false 0 x0.kind x0.text x0.keys x0.kids x2.kind x2.text x2.keys x2.kids 0 [] 3 [] [] [])
theorem rwith_e (G : Nat → ASt E → Option (List (TV E))) (x0 : Node) (x1 : List UInt8) (x2 : Node) : runE rwith_O rwith_H G Tryz.f92 [⟨.api_Node, x0⟩, ⟨.str, x1⟩, ⟨.api_Node, x2⟩] = rwith_t G x0 x1 x2 := by kernel_rfl
noncomputable def rwith_t0 (G : Nat → ASt E → Option (List (TV E))) (v0 : List UInt8) (v1 : Bool) (v2 v3 : Int) (v4 : List UInt8) (v5 : List (List UInt8)) (v6 : List Node) (v7 : Int) (v8 : List UInt8) (v9 : List (List UInt8)) (v10 : List Node) (v11 : Int) (v12 : List UInt8) (v13 : Int) (v14 : List UInt8) (v15 : List (List UInt8)) (v16 : List Node) : Option (List (TV E)) :=
  bif (decide (v2 < (v5.length : Int))) then (bif (decide ((0 : Int) ≤ v2) && decide (v2 < (v5.length : Int))) then (bif (decide ((v15.length + ([(List.getD v5 (Int.toNat v2) (dflt .str))] : List (List UInt8)).length) * 16 ≤ maxBytes)) then (bif (decide ((0 : Int) ≤ v2) && decide (v2 < (v5.length : Int))) then (bif ((List.getD v5 (Int.toNat v2) (dflt .str)) == v0) then (bif (decide ((v16.length + ([(⟨v7, v8, v9, v10⟩ : Node)] : List Node).length) * 72 ≤ maxBytes)) then G 0 (rwith_C0 v0 true (w64 (v2 + (1 : Int))) v3 v4 v5 v6 v7 v8 v9 v10 v11 v12 v13 v14 (v15 ++ ([(List.getD v5 (Int.toNat v2) (dflt .str))] : List (List UInt8))) (v16 ++ ([(⟨v7, v8, v9, v10⟩ : Node)] : List Node))) else none) else (bif (decide ((0 : Int) ≤ v2) && decide (v2 < (v6.length : Int))) then (bif (decide ((v16.length + ([(⟨(List.getD v6 (Int.toNat v2) (dflt .api_Node)).kind, (List.getD v6 (Int.toNat v2) (dflt .api_Node)).text, (List.getD v6 (Int.toNat v2) (dflt .api_Node)).keys, (List.getD v6 (Int.toNat v2) (dflt .api_Node)).kids⟩ : Node)] : List Node).length) * 72 ≤ maxBytes)) then G 0 (rwith_C0 v0 v1 (w64 (v2 + (1 : Int))) v3 v4 v5 v6 v7 v8 v9 v10 v11 v12 v13 v14 (v15 ++ ([(List.getD v5 (Int.toNat v2) (dflt .str))] : List (List UInt8))) (v16 ++ ([(⟨(List.getD v6 (Int.toNat v2) (dflt .api_Node)).kind, (List.getD v6 (Int.toNat v2) (dflt .api_Node)).text, (List.getD v6 (Int.toNat v2) (dflt .api_Node)).keys, (List.getD v6 (Int.toNat v2) (dflt .api_Node)).kids⟩ : Node)] : List Node))) else none) else none)) else none) else none) else none) else (bif (!v1) then (bif (decide ((v15.length + ([v0] : List (List UInt8)).length) * 16 ≤ maxBytes)) then (bif (decide ((v16.length + ([(⟨v7, v8, v9, v10⟩ : Node)] : List Node).length) * 72 ≤ maxBytes)) then some [⟨.api_Node, (⟨v13, v14, (v15 ++ ([v0] : List (List UInt8))), (v16 ++ ([(⟨v7, v8, v9, v10⟩ : Node)] : List Node))⟩ : Node)⟩] else none) else none) else some [⟨.api_Node, (⟨v13, v14, v15, v16⟩ : Node)⟩])
theorem rwith_l0 (G : Nat → ASt E → Option (List (TV E))) (v0 : List UInt8) (v1 : Bool) (v2 v3 : Int) (v4 : List UInt8) (v5 : List (List UInt8)) (v6 : List Node) (v7 : Int) (v8 : List UInt8) (v9 : List (List UInt8)) (v10 : List Node) (v11 : Int) (v12 : List UInt8) (v13 : Int) (v14 : List UInt8) (v15 : List (List UInt8)) (v16 : List Node) : runL rwith_O rwith_H G Tryz.f92 0 (rwith_C0 v0 v1 v2 v3 v4 v5 v6 v7 v8 v9 v10 v11 v12 v13 v14 v15 v16) = rwith_t0 G v0 v1 v2 v3 v4 v5 v6 v7 v8 v9 v10 v11 v12 v13 v14 v15 v16 := by kernel_rfl
theorem rwith_f : Tryz.prog.funcs[92]? = some Tryz.f92 := by kernel_rfl
theorem rwith_n : (Tryz.f92.name == "runtime.NumGoroutine") = false := by kernel_rfl
theorem rwith_b : Tryz.f92.body.isNone = false := by kernel_rfl
theorem rwith_hO : OracleOk E rwith_O := orac_ok .nil .nil .nil .nil
theorem rwith_s0 {res : List (TV E)} {v0 : List UInt8} {v1 : Bool} {v2 v3 : Int} {v4 : List UInt8} {v5 : List (List UInt8)} {v6 : List Node} {v7 : Int} {v8 : List UInt8} {v9 : List (List UInt8)} {v10 : List Node} {v11 : Int} {v12 : List UInt8} {v13 : Int} {v14 : List UInt8} {v15 : List (List UInt8)} {v16 : List Node} (h : rwith_t0 (Gr E Tryz.f92 res) v0 v1 v2 v3 v4 v5 v6 v7 v8 v9 v10 v11 v12 v13 v14 v15 v16 = some res) : Ev E Tryz.f92 res 0 (rwith_C0 v0 v1 v2 v3 v4 v5 v6 v7 v8 v9 v10 v11 v12 v13 v14 v15 v16) := Ev.step rwith_hO mix ((rwith_l0 _ v0 v1 v2 v3 v4 v5 v6 v7 v8 v9 v10 v11 v12 v13 v14 v15 v16).trans h)
theorem rwith_ok_of (h : ∀ (x0 : Node) (x1 : List UInt8) (x2 : Node), okWi x0 x1 x2 = true → rwith_t (Gr E Tryz.f92 [⟨.api_Node, withV x0 x1 x2⟩]) x0 x1 x2 = some [⟨.api_Node, withV x0 x1 x2⟩]) : FnOk E rwith_id rwith_W := fn3_ok rwith_hO mix rwith_f rwith_n rwith_b (fun x0 x1 x2 hk => (rwith_e _ x0 x1 x2).trans (h x0 x1 x2 hk))
theorem rwith_0 (keys : List (List UInt8)) (kids : List Node) (k : List UInt8) (v : Node) (hs : keys.length ≤ 100000) (hl : keys.length = kids.length) (a0 : Int) (a1 : List UInt8) (u0 : Int) (u1 : List UInt8) (u2 : Int) (u3 : List UInt8) : ∀ (m i : Nat) (th : Bool) (ok : List (List UInt8)) (ov : List Node), keys.length - i = m → i ≤ keys.length → ok.length = i → ov.length = i →
    Ev E Tryz.f92 [⟨.api_Node, (⟨u2, u3, ok ++ (keys.drop i ++ newK (th || inV (keys.drop i) k) k), ov ++ (wKids k v (keys.drop i) (kids.drop i) ++ newV (th || inV (keys.drop i) k) v)⟩ : Node)⟩] 0 (rwith_C0 k th i a0 a1 keys kids v.kind v.text v.keys v.kids u0 u1 u2 u3 ok ov) := by
  intro m
  induction m with
  | zero =>
    intro i th ok ov h1 h2 h3 h4
    refine rwith_s0 ?_
    simp only [rwith_t0, dge (show keys.length ≤ i by omega), cond_false, List.drop_eq_nil_of_le (show keys.length ≤ i by omega)]
    cases th with
    | true => simp [newK, newV, wKids]
    | false =>
      rw [Bool.not_false, cond_true, dT (show (ok.length + [k].length) * 16 ≤ maxBytes by rw [mb, List.length_singleton]; omega), cond_true, node_eta, dT (show (ov.length + [v].length) * 72 ≤ maxBytes by rw [mb, List.length_singleton]; omega), cond_true]
      simp [newK, newV, wKids, inV]
  | succ m ih2 =>
    intro i th ok ov h1 h2 h3 h4
    have hi : i < keys.length := by omega
    have hj : i < kids.length := by omega
    have e3 : w64 ((i : Int) + 1) = ((i + 1 : Nat) : Int) := by rw [w64_id (by omega) (by omega)]; omega
    refine rwith_s0 ?_
    simp only [rwith_t0, dlt hi, d0, gd keys _ i hi, e3, Bool.and_self, Bool.true_or, cond_true, node_eta, dlt hj, gd kids _ i hj]
    rw [← List.getElem_cons_drop hi]
    have e1 : ∀ x : List UInt8, decide ((ok.length + [x].length) * 16 ≤ maxBytes) = true := fun x => dT (by rw [mb, List.length_singleton]; omega)
    have e2 : ∀ x : Node, decide ((ov.length + [x].length) * 72 ≤ maxBytes) = true := fun x => dT (by rw [mb, List.length_singleton]; omega)
    simp only [e1, e2, cond_true]
    rw [← List.getElem_cons_drop hj]
    simp only [wKids, inV, List.any_cons]
    cases hb : keys[i] == k with
    | true =>
      simp only [cond_true]
      have := Gr_of (ih2 (i + 1) true (ok ++ [keys[i]]) (ov ++ [v]) (by omega) (by omega) (by simp [h3]) (by simp [h4]))
      simp only [inV, Bool.true_or, Bool.or_true, List.append_assoc, List.singleton_append] at this ⊢
      exact this
    | false =>
      simp only [cond_false]
      have := Gr_of (ih2 (i + 1) th (ok ++ [keys[i]]) (ov ++ [kids[i]]) (by omega) (by omega) (by simp [h3]) (by simp [h4]))
      simp only [inV, Bool.false_or, List.append_assoc, List.singleton_append] at this ⊢
      exact this
theorem rwith_ok : FnOk E rwith_id rwith_W := rwith_ok_of fun x k v hk => by
  obtain ⟨h1, h2⟩ := okWi_iff.1 hk
  unfold withV
  simp only [rwith_t, node_eta]
  cases hc : (bif x.kind != 0 then x.kind != 3 else false) with
  | true => simp only [cond_true]
  | false =>
    simp only [cond_false]
    have := Gr_of (rwith_0 x.keys x.kids k v h1 h2 x.kind x.text 0 [] 3 [] x.keys.length 0 false [] [] (by omega) (by omega) rfl rfl)
    rw [List.drop_zero, List.drop_zero, List.nil_append, List.nil_append, Bool.false_or] at this
    exact this
theorem newKV (th : Bool) (k : List UInt8) (v : Node) : (newK th k).length = (newV th v).length ∧ (newK th k).length ≤ 1 := by cases th <;> exact ⟨rfl, by simp [newK]⟩
theorem withV_fit {x : Node} {k : List UInt8} {v : Node} (hk : x.kind = 0 ∨ x.kind = 3) (h : x.keys.length = x.kids.length) :
    (withV x k v).kind = 3 ∧ (withV x k v).keys.length = (withV x k v).kids.length ∧ (withV x k v).keys.length ≤ x.keys.length + 1 ∧ ∀ y ∈ (withV x k v).kids, y = v ∨ y ∈ x.kids := by
  have hc : (bif x.kind != 0 then x.kind != 3 else false) = false := by rcases hk with e | e <;> rw [e] <;> rfl
  unfold withV
  rw [hc]
  have hw := wKids_len k v x.keys x.kids h
  have hn := newKV (inV x.keys k) k v
  refine ⟨rfl, ?_, ?_, fun y hy => ?_⟩
  · simp only [cond_false, List.length_append, hw, hn.1]
  · simp only [cond_false, List.length_append]; omega
  · simp only [cond_false, List.mem_append] at hy
    rcases hy with hy | hy
    · exact wKids_mem k v _ _ y hy
    · left
      unfold newV at hy
      cases hi : inV x.keys k with
      | true => rw [hi] at hy; cases hy
      | false => rw [hi] at hy; simpa using hy
end Go.Proofs.YtgniedpgdjmfpaaGreatDoor.Rf
namespace Go.Proofs.YtgniedpgdjmfpaaGreatDoor.Rf
open Go Go.RowKit Go.Sort Go.Proofs.YtgniedpgdjmfpaaGreatDoor.Mir
theorem cutN {α : Type} (s : List α) (i : Nat) : List.take (s.length - i) (List.drop i s) = s.drop i := List.take_of_length_le (by rw [List.length_drop]; omega)
theorem cutT {α : Type} (s : List α) (i : Nat) : List.take (i - Int.toNat (0 : Int)) (List.drop (Int.toNat (0 : Int)) s) = s.take i := by
  rw [Int.toNat_zero, Nat.sub_zero, List.drop_zero]
theorem dle {i n : Nat} (h : i ≤ n) : decide ((i : Int) ≤ (n : Int)) = true := dT (by omega)
theorem dlr (n : Nat) : decide ((n : Int) ≤ (n : Int)) = true := dT (Int.le_refl _)
theorem d00 : decide ((0 : Int) ≤ 0) = true := rfl
theorem isD_b (c : UInt8) : (bif decide ((48 : Int) ≤ (c.toNat : Int)) then decide ((c.toNat : Int) ≤ 57) else false) = isD c := by
  unfold isD
  by_cases h1 : 48 ≤ c.toNat
  · rw [dT (show (48 : Int) ≤ (c.toNat : Int) by omega), dT h1, cond_true, Bool.true_and]; exact decide_eq_decide.2 (by omega)
  · rw [dF (show ¬ (48 : Int) ≤ (c.toNat : Int) by omega), dF h1]; rfl
end Go.Proofs.YtgniedpgdjmfpaaGreatDoor.Rf
namespace Go.Proofs.YtgniedpgdjmfpaaGreatDoor.Rf
open Go Go.RowKit Go.Sort Go.Proofs.YtgniedpgdjmfpaaGreatDoor.Mir
theorem lk_none {k : List UInt8} : ∀ {ks : List (List UInt8)} {vs : List Node}, ks.length = vs.length → k ∉ ks → lk ks vs k = none
  | [], [], _, _ => rfl
  | a :: t, v :: w, h, hn => by
    unfold lk
    rw [if_neg (fun e => hn (by rw [e]; exact List.mem_cons_self))]
    exact lk_none (by simpa using h) (fun hm => hn (List.mem_cons_of_mem _ hm))
  | [], _ :: _, h, _ => by simp at h
  | _ :: _, [], h, _ => by simp at h
theorem lk_map {k : List UInt8} (g : List UInt8 → Node) : ∀ (ks : List (List UInt8)), k ∈ ks → lk ks (ks.map g) k = some (g k)
  | a :: t, h => by
    simp only [List.map_cons, lk]
    by_cases e : k = a
    · rw [if_pos e, e]
    · rw [if_neg e]; exact lk_map g t ((List.mem_cons.1 h).resolve_left e)
  | [], h => by cases h
theorem lk_app {k : List UInt8} : ∀ (ks : List (List UInt8)) (vs : List Node) (ks' : List (List UInt8)) (vs' : List Node), ks.length = vs.length → lk (ks ++ ks') (vs ++ vs') k = (match lk ks vs k with | some v => some v | none => lk ks' vs' k)
  | [], [], _, _, _ => rfl
  | a :: t, v :: w, ks', vs', h => by
    simp only [List.cons_append, lk]
    by_cases e : k = a
    · rw [if_pos e, if_pos e]
    · rw [if_neg e, if_neg e]; exact lk_app t w ks' vs' (by simpa using h)
  | [], _ :: _, _, _, h => by simp at h
  | _ :: _, [], _, _, h => by simp at h
theorem lk_wKids (k : List UInt8) (v : Node) (k' : List UInt8) : ∀ (ks : List (List UInt8)) (vs : List Node), ks.length = vs.length → lk ks (wKids k v ks vs) k' = (if k' = k then (if k ∈ ks then some v else none) else lk ks vs k')
  | [], [], _ => by simp [wKids, lk]
  | a :: t, x :: w, h => by
    have ih := lk_wKids k v k' t w (by simpa using h)
    simp only [wKids, lk]
    by_cases e : k' = a
    · rw [if_pos e]
      by_cases e2 : k' = k
      · subst e2; subst e; simp
      · have hb : (a == k) = false := by simpa using fun h => e2 (e.trans h)
        rw [hb, if_neg e2, if_pos e]; rfl
    · rw [if_neg e, ih]
      by_cases e2 : k' = k
      · subst e2
        rw [if_pos rfl, if_pos rfl]
        simp [e]
      · rw [if_neg e2, if_neg e2, if_neg e]
  | [], _ :: _, h => by simp at h
  | _ :: _, [], h => by simp at h
theorem inV_iff {l : List (List UInt8)} {s : List UInt8} : inV l s = true ↔ s ∈ l := by
  unfold inV
  rw [List.any_eq_true]
  constructor
  · rintro ⟨x, hx, h⟩
    have : x = s := by simpa using h
    subst this; exact hx
  · exact fun h => ⟨s, h, by simp⟩
theorem withV_lk {x : Node} {k : List UInt8} {v : Node} (hk : x.kind = 0 ∨ x.kind = 3) (h : x.keys.length = x.kids.length) (k' : List UInt8) :
    lk (withV x k v).keys (withV x k v).kids k' = (if k' = k then some v else lk x.keys x.kids k') := by
  have hc : (bif x.kind != 0 then x.kind != 3 else false) = false := by rcases hk with e | e <;> rw [e] <;> rfl
  unfold withV
  rw [hc]
  simp only [cond_false]
  rw [lk_app _ _ _ _ (wKids_len k v x.keys x.kids h).symm, lk_wKids k v k' x.keys x.kids h]
  by_cases hm : k ∈ x.keys
  · rw [inV_iff.2 hm]
    by_cases e : k' = k
    · rw [if_pos e, if_pos hm, if_pos e]
    · rw [if_neg e, if_neg e]
      simp only [newK, newV, cond_true]
      cases lk x.keys x.kids k' <;> rfl
  · have hb : inV x.keys k = false := by
      cases h2 : inV x.keys k with
      | false => rfl
      | true => exact absurd (inV_iff.1 h2) hm
    rw [hb]
    simp only [newK, newV, cond_false]
    by_cases e : k' = k
    · rw [if_pos e, if_neg hm, if_pos e]; simp [lk, e]
    · rw [if_neg e, if_neg e]
      cases hl : lk x.keys x.kids k' with
      | some y => rfl
      | none => simp [lk, e]
structure Bld (φ : List UInt8 → Node → Prop) (x : Node) : Prop where
  kind : x.kind = 0 ∨ x.kind = 3
  text : x.text = []
  len : x.keys.length = x.kids.length
  val : ∀ k v, lk x.keys x.kids k = some v → φ k v
theorem Bld.nil {φ : List UInt8 → Node → Prop} {k : Int} (hk : k = 0 ∨ k = 3) : Bld φ ⟨k, [], [], []⟩ := ⟨hk, rfl, rfl, fun k v h => by cases h⟩
theorem withV_text {x : Node} {k : List UInt8} {v : Node} (hk : x.kind = 0 ∨ x.kind = 3) : (withV x k v).text = [] := by
  have hc : (bif x.kind != 0 then x.kind != 3 else false) = false := by rcases hk with e | e <;> rw [e] <;> rfl
  unfold withV
  rw [hc]
  rfl
theorem Bld.withV {φ : List UInt8 → Node → Prop} {x : Node} (h : Bld φ x) {k : List UInt8} {v : Node} (hv : φ k v) : Bld φ (withV x k v) := by
  obtain ⟨h1, h2, _, _⟩ := withV_fit (k := k) (v := v) h.kind h.len
  refine ⟨.inr h1, withV_text h.kind, h2, fun k' y hy => ?_⟩
  rw [withV_lk h.kind h.len] at hy
  split at hy
  · rename_i e; cases hy; subst e; exact hv
  · exact h.val k' y hy
end Go.Proofs.YtgniedpgdjmfpaaGreatDoor.Rf
namespace Go.Proofs.YtgniedpgdjmfpaaGreatDoor.Rf
open Go Go.RowKit Go.Sort Go.Proofs.YtgniedpgdjmfpaaGreatDoor.Mir
def kd : Nat → Node → Bool
  | 0, _ => false
  | n + 1, x => decide (0 ≤ x.kind) && decide (x.kind ≤ 3) && decide (x.kind ≠ 3 → x.keys.length = 0) && decide (x.kind < 2 → x.kids.length = 0) && x.kids.all (kd n)
theorem kd_iff {n : Nat} {x : Node} : kd (n + 1) x = true ↔ ((0 ≤ x.kind ∧ x.kind ≤ 3) ∧ (x.kind ≠ 3 → x.keys.length = 0)) ∧ (x.kind < 2 → x.kids.length = 0) ∧ ∀ y ∈ x.kids, kd n y = true := by
  simp only [kd, Bool.and_eq_true, decide_eq_true_eq, List.all_eq_true]
  exact ⟨fun ⟨⟨h1, h2⟩, h3⟩ => ⟨h1, h2, h3⟩, fun ⟨h1, h2, h3⟩ => ⟨⟨h1, h2⟩, h3⟩⟩
def okNd (d : Nat) (n : Node) : Bool := wf 200 d n && kd d n
structure Bq (φ : List UInt8 → Node → Prop) (d L : Nat) (x : Node) : Prop where
  bld : Bld φ x
  kids : ∀ y ∈ x.kids, wg 10000 d y = true
  len : x.keys.length ≤ L
theorem Bq.nil {φ : List UInt8 → Node → Prop} {d L : Nat} {k : Int} (hk : k = 0 ∨ k = 3) : Bq φ d L ⟨k, [], [], []⟩ := ⟨Bld.nil hk, (fun y h => by cases h), Nat.zero_le _⟩
theorem Bq.put {φ : List UInt8 → Node → Prop} {d L : Nat} {x : Node} (h : Bq φ d L x) {k : List UInt8} {v : Node} (hv : φ k v) (hw : wg 10000 d v = true) : Bq φ d (L + 1) (withV x k v) := by
  obtain ⟨_, _, h3, h4⟩ := withV_fit (k := k) (v := v) h.bld.kind h.bld.len
  exact ⟨h.bld.withV hv, fun y hy => (h4 y hy).elim (fun e => by rw [e]; exact hw) (h.kids y), by have := h.len; omega⟩
theorem Bq.ok {φ : List UInt8 → Node → Prop} {d L : Nat} {x : Node} (h : Bq φ d L x) (hL : L ≤ 100000) (k : List UInt8) (v : Node) : okWi x k v = true := okWi_iff.2 ⟨by have := h.len; omega, h.bld.len⟩
theorem Bq.wg_ {φ : List UInt8 → Node → Prop} {d L : Nat} {x : Node} (h : Bq φ d L x) (hL : x.keys.length ≤ 10000) (k : Int) : wg 10000 (d + 1) ⟨k, x.text, x.keys, x.kids⟩ = true :=
  wg_iff.2 ⟨hL, by show x.kids.length ≤ 10000; rw [← h.bld.len]; exact hL, fun _ => h.bld.len, h.kids⟩
def leafK (_ : List UInt8) (v : Node) : Prop := v.kind ≠ 3
def txtN (s : List UInt8) : Node := ⟨1, s, [], []⟩
theorem txtN_wg (s : List UInt8) (d : Nat) : wg 10000 (d + 1) (txtN s) = true := by simp [txtN, wg]
theorem zn_wg (d : Nat) : wg 10000 (d + 1) (⟨0, [], [], []⟩ : Node) = true := by simp [wg]
noncomputable def r18text_W : FnW E := fn1 (E := E) .str .api_Node (fun _ => true) txtN
def r18text_id : FuncId := 85
noncomputable def r18text_O : Oracle E := orac [] [] [] []
noncomputable def r18text_H : Hint E := Hint.mk [] [] [] [] []
noncomputable def r18text_t (_G : Nat → ASt E → Option (List (TV E))) (x0 : List UInt8) : Option (List (TV E)) :=
  some [⟨.api_Node, (⟨1, x0, [], []⟩ : Node)⟩]
theorem r18text_e (G : Nat → ASt E → Option (List (TV E))) (x0 : List UInt8) : runE r18text_O r18text_H G Tryz.f85 [⟨.str, x0⟩] = r18text_t G x0 := by kernel_rfl
theorem r18text_f : Tryz.prog.funcs[85]? = some Tryz.f85 := by kernel_rfl
theorem r18text_n : (Tryz.f85.name == "runtime.NumGoroutine") = false := by kernel_rfl
theorem r18text_b : Tryz.f85.body.isNone = false := by kernel_rfl
theorem r18text_hO : OracleOk E r18text_O := orac_ok .nil .nil .nil .nil
theorem r18text_ok_of (h : ∀ (x0 : List UInt8), r18text_t (Gr E Tryz.f85 [⟨.api_Node, txtN x0⟩]) x0 = some [⟨.api_Node, txtN x0⟩]) : FnOk E r18text_id r18text_W := fn1_ok r18text_hO mix r18text_f r18text_n r18text_b (fun x0 _ => (r18text_e _ x0).trans (h x0))
theorem r18text_ok : FnOk E r18text_id r18text_W := r18text_ok_of fun s => rfl
def mapN (x : Node) : Node := ⟨3, x.text, x.keys, x.kids⟩
def doneB (x : Node) (b : Bool) : Bool := !(bif !b then true else decide ((32 : Int) < (x.keys.length : Int)))
def doneV (x : Node) (b : Bool) : Node := bif doneB x b then sortN 12 (mapN x) else ⟨0, [], [], []⟩
def okDn (x : Node) (b : Bool) : Bool := !(doneB x b) || wg 10000 12 (mapN x)
noncomputable def r18done_W : FnW E := fn22 (E := E) .api_Node .bool .api_Node .bool okDn doneV doneB
def r18done_id : FuncId := 93
noncomputable def r18done_O : Oracle E := orac [(140, rnsorted_W 12)] [] [] []
noncomputable def r18done_H : Hint E := Hint.mk [] [] [] [] []
noncomputable def r18done_t (_G : Nat → ASt E → Option (List (TV E))) (x0 : Node) (x1 : Bool) : Option (List (TV E)) :=
  bif (bif (!x1) then true else (decide ((32 : Int) < (x0.keys.length : Int)))) then some [⟨.api_Node, (⟨0, [], [], []⟩ : Node)⟩, ⟨.bool, false⟩] else (bif ((wg 10000 12) (⟨3, x0.text, x0.keys, x0.kids⟩ : Node)) then some [⟨.api_Node, (⟨((sortN 12) (⟨3, x0.text, x0.keys, x0.kids⟩ : Node)).kind, ((sortN 12) (⟨3, x0.text, x0.keys, x0.kids⟩ : Node)).text, ((sortN 12) (⟨3, x0.text, x0.keys, x0.kids⟩ : Node)).keys, ((sortN 12) (⟨3, x0.text, x0.keys, x0.kids⟩ : Node)).kids⟩ : Node)⟩, ⟨.bool, true⟩] else none)
theorem r18done_e (G : Nat → ASt E → Option (List (TV E))) (x0 : Node) (x1 : Bool) : runE r18done_O r18done_H G Tryz.f93 [⟨.api_Node, x0⟩, ⟨.bool, x1⟩] = r18done_t G x0 x1 := by kernel_rfl
theorem r18done_f : Tryz.prog.funcs[93]? = some Tryz.f93 := by kernel_rfl
theorem r18done_n : (Tryz.f93.name == "runtime.NumGoroutine") = false := by kernel_rfl
theorem r18done_b : Tryz.f93.body.isNone = false := by kernel_rfl
theorem r18done_hO : OracleOk E r18done_O := orac_ok (.cons (rnsorted_ok 12) .nil) .nil .nil .nil
theorem r18done_ok_of (h : ∀ (x0 : Node) (x1 : Bool), okDn x0 x1 = true → r18done_t (Gr E Tryz.f93 [⟨.api_Node, doneV x0 x1⟩, ⟨.bool, doneB x0 x1⟩]) x0 x1 = some [⟨.api_Node, doneV x0 x1⟩, ⟨.bool, doneB x0 x1⟩]) : FnOk E r18done_id r18done_W := fn22_ok r18done_hO mix r18done_f r18done_n r18done_b (fun x0 x1 hk => (r18done_e _ x0 x1).trans (h x0 x1 hk))
theorem r18done_ok : FnOk E r18done_id r18done_W := r18done_ok_of fun x b hk => by
  unfold okDn at hk
  unfold doneV
  simp only [r18done_t, node_eta]
  change (bif _ then _ else bif wg 10000 12 (mapN x) then some ([⟨.api_Node, (⟨(sortN 12 (mapN x)).kind, (sortN 12 (mapN x)).text, (sortN 12 (mapN x)).keys, (sortN 12 (mapN x)).kids⟩ : Node)⟩, ⟨.bool, true⟩] : List (TV E)) else none) = _
  rw [node_eta]
  cases hb : doneB x b with
  | true =>
    rw [hb] at hk
    have hk : wg 10000 12 (mapN x) = true := by simpa using hk
    rw [hk]
    have hb2 : (bif !b then true else decide ((32 : Int) < (x.keys.length : Int))) = false := by simpa [doneB] using hb
    rw [hb2]
    rfl
  | false =>
    have hb2 : (bif !b then true else decide ((32 : Int) < (x.keys.length : Int))) = true := by
      unfold doneB at hb
      cases hq : (bif !b then true else decide ((32 : Int) < (x.keys.length : Int))) with
      | true => rfl
      | false => rw [hq] at hb; cases hb
    rw [hb2]
    rfl
theorem Bq.done_ok {φ : List UInt8 → Node → Prop} {d L : Nat} {x : Node} (h : Bq φ d L x) (hd : d ≤ 11) (b : Bool) : okDn x b = true := by
  unfold okDn
  cases hb : doneB x b with
  | false => rfl
  | true =>
    have hk : x.keys.length ≤ 32 := by
      unfold doneB at hb
      cases b with
      | false => cases hb
      | true =>
        simp only [Bool.not_true, cond_false, Bool.not_eq_true', decide_eq_false_iff_not] at hb
        omega
    have := wg_deep (11 - d) (h.wg_ (by omega) 3)
    rw [show d + 1 + (11 - d) = 12 from by omega] at this
    exact this
end Go.Proofs.YtgniedpgdjmfpaaGreatDoor.Rf
namespace Go.Proofs.YtgniedpgdjmfpaaGreatDoor.Rf
open Go Go.RowKit Go.Sort Go.Proofs.YtgniedpgdjmfpaaGreatDoor.Mir
theorem wKids_id (k : List UInt8) (v : Node) : ∀ (ks : List (List UInt8)) (vs : List Node), ks.length = vs.length → k ∉ ks → wKids k v ks vs = vs
  | [], [], _, _ => rfl
  | a :: t, x :: w, h, hn => by
    have hb : (a == k) = false := by simpa using fun e : a = k => hn (by rw [e]; exact List.mem_cons_self)
    simp only [wKids, hb, cond_false]
    rw [wKids_id k v t w (by simpa using h) (fun hm => hn (List.mem_cons_of_mem _ hm))]
  | [], _ :: _, h, _ => by simp at h
  | _ :: _, [], h, _ => by simp at h
theorem idxF_ge (k : List UInt8) : ∀ (ks : List (List UInt8)) (i : Nat), k ∈ ks → ∃ j : Nat, idxF k i ks = ((i + j : Nat) : Int)
  | [], _, h => by cases h
  | a :: t, i, h => by
    unfold idxF
    by_cases e : k = a
    · rw [if_pos e]; exact ⟨0, by simp⟩
    · rw [if_neg e]
      obtain ⟨j, hj⟩ := idxF_ge k t (i + 1) ((List.mem_cons.1 h).resolve_left e)
      exact ⟨j + 1, by rw [hj]; congr 1; omega⟩
theorem idxF_no (k : List UInt8) : ∀ (ks : List (List UInt8)) (i : Nat), k ∉ ks → idxF k i ks = -1
  | [], _, _ => rfl
  | a :: t, i, h => by
    unfold idxF
    rw [if_neg (fun e => h (by rw [e]; exact List.mem_cons_self))]
    exact idxF_no k t (i + 1) (fun hm => h (List.mem_cons_of_mem _ hm))
theorem set_w (k : List UInt8) (v : Node) : ∀ (ks : List (List UInt8)) (vs : List Node) (i : Nat), ks.length = vs.length → ks.Nodup → k ∈ ks → vs.set ((idxF k i ks).toNat - i) v = wKids k v ks vs
  | [], _, _, _, _, h => by cases h
  | a :: t, x :: w, i, hl, hn, hm => by
    have hn' := List.nodup_cons.1 hn
    unfold idxF
    by_cases e : k = a
    · subst e
      rw [if_pos rfl]
      simp only [wKids, beq_self_eq_true, cond_true, Int.toNat_natCast, Nat.sub_self, List.set_cons_zero]
      rw [wKids_id k v t w (by simpa using hl) hn'.1]
    · have hb : (a == k) = false := by simpa using fun h : a = k => e h.symm
      rw [if_neg e]
      have hm' := (List.mem_cons.1 hm).resolve_left e
      obtain ⟨j, hj⟩ := idxF_ge k t (i + 1) hm'
      have ih := set_w k v t w (i + 1) (by simpa using hl) hn'.2 hm'
      rw [hj, Int.toNat_natCast] at ih
      rw [hj, Int.toNat_natCast]
      have e2 : i + 1 + j - i = j + 1 := by omega
      have e3 : i + 1 + j - (i + 1) = j := by omega
      rw [e3] at ih
      rw [e2, List.set_cons_succ, ih]
      simp only [wKids, hb, cond_false]
  | _ :: _, [], _, h, _, _ => by simp at h
theorem withP_eq {o : Node} {k : List UInt8} {v : Node} (hk : o.kind = 0 ∨ o.kind = 3) (hl : o.keys.length = o.kids.length) (hn : o.keys.Nodup) : withP o k v = withV o k v := by
  have hc : (bif o.kind != 3 then o.kind != 0 else false) = false := by rcases hk with e | e <;> rw [e] <;> rfl
  have hc' : (bif o.kind != 0 then o.kind != 3 else false) = false := by rcases hk with e | e <;> rw [e] <;> rfl
  unfold withP withV
  rw [hc, hc', cond_false, cond_false]
  by_cases hm : k ∈ o.keys
  · obtain ⟨j, hj⟩ := idxF_ge k o.keys 0 hm
    have h0 : 0 ≤ index o.keys k := by unfold index; rw [hj]; omega
    have hs := set_w k v o.keys o.kids 0 hl hn hm
    rw [Nat.sub_zero] at hs
    have hs : o.kids.set (index o.keys k).toNat v = wKids k v o.keys o.kids := hs
    rw [dT h0, cond_true, hs, inV_iff.2 hm]
    simp [newK, newV]
  · have h0 : ¬ 0 ≤ index o.keys k := by unfold index; rw [idxF_no k o.keys 0 hm]; decide
    have hb : inV o.keys k = false := by
      cases h2 : inV o.keys k with
      | false => rfl
      | true => exact absurd (inV_iff.1 h2) hm
    rw [dF h0, cond_false, hb, wKids_id k v o.keys o.kids hl hm]
    simp [newK, newV]
theorem sortD_nil : Pl.sortD [] = [] := Pl.sortD_eq List.Pairwise.nil fun _ => Iff.rfl
theorem sortP_eq : ∀ (n : Nat) (x : Node), wg 10000 n x = true → kd n x = true → sortP n x = sortN n x
  | 0, _, h, _ => by cases h
  | n + 1, x, hw, hk => by
    have w := wg_iff.1 hw
    have k := kd_iff.1 hk
    simp only [sortP, sortN]
    by_cases h0 : x.kids.length = 0
    · rw [eqT (show (x.kids.length : Int) = 0 by omega), cond_true]
      have hkids : x.kids = [] := List.eq_nil_of_length_eq_zero h0
      by_cases h3 : x.kind = 3
      · have hkeys : x.keys = [] := List.eq_nil_of_length_eq_zero (by rw [w.2.2.1 h3]; exact h0)
        rw [eqT h3, cond_true, hkeys, sortD_nil, List.map_nil]
        conv => lhs; rw [← node_eta x, hkeys, hkids]
      · have hkeys : x.keys = [] := List.eq_nil_of_length_eq_zero (k.1.2 h3)
        rw [eqF h3, cond_false, hkids, List.map_nil]
        conv => lhs; rw [← node_eta x, hkeys, hkids]
    · rw [eqF (show (x.kids.length : Int) ≠ 0 by omega), cond_false]
      by_cases h3 : x.kind = 3
      · rw [neF h3, eqT h3, cond_false, cond_true]
        congr 1
        refine List.map_congr_left fun q hq => ?_
        have hg := getB_g hw h3 (Pl.sortD_mem.1 hq)
        exact sortP_eq n _ (wg_get hw hg) (k.2.2 _ (getV_mem hg))
      · rw [neT h3, eqF h3, cond_true, cond_false]
        congr 1
        exact List.map_congr_left fun y hy => sortP_eq n y (w.2.2.2 y hy) (k.2.2 y hy)
end Go.Proofs.YtgniedpgdjmfpaaGreatDoor.Rf
namespace Go.Proofs.YtgniedpgdjmfpaaGreatDoor.Rf
open Go Go.RowKit Go.Sort Go.Proofs.YtgniedpgdjmfpaaGreatDoor.Mir
def keyB (s : List UInt8) (b : Bool) : Bool := bif b then nameV badV s else nameV badS s
noncomputable def r18key_W : FnW E := fn2 (E := E) .str .bool .bool (fun _ _ => true) keyB
def r18key_id : FuncId := 90
noncomputable def r18key_O : Oracle E := orac [(94, rservice_W), (139, rvariable_W)] [] [] []
noncomputable def r18key_H : Hint E := Hint.mk [] [] [] [] []
noncomputable def r18key_t (_G : Nat → ASt E → Option (List (TV E))) (x0 : List UInt8) (x1 : Bool) : Option (List (TV E)) :=
  bif x1 then some [⟨.bool, ((nameV badV) x0)⟩] else some [⟨.bool, ((nameV badS) x0)⟩]
theorem r18key_e (G : Nat → ASt E → Option (List (TV E))) (x0 : List UInt8) (x1 : Bool) : runE r18key_O r18key_H G Tryz.f90 [⟨.str, x0⟩, ⟨.bool, x1⟩] = r18key_t G x0 x1 := by kernel_rfl
theorem r18key_f : Tryz.prog.funcs[90]? = some Tryz.f90 := by kernel_rfl
theorem r18key_n : (Tryz.f90.name == "runtime.NumGoroutine") = false := by kernel_rfl
theorem r18key_b : Tryz.f90.body.isNone = false := by kernel_rfl
theorem r18key_hO : OracleOk E r18key_O := orac_ok (.cons rservice_ok (.cons rvariable_ok .nil)) .nil .nil .nil
theorem r18key_ok_of (h : ∀ (x0 : List UInt8) (x1 : Bool), r18key_t (Gr E Tryz.f90 [⟨.bool, keyB x0 x1⟩]) x0 x1 = some [⟨.bool, keyB x0 x1⟩]) : FnOk E r18key_id r18key_W := fn2_ok r18key_hO mix r18key_f r18key_n r18key_b (fun x0 x1 _ => (r18key_e _ x0 x1).trans (h x0 x1))
theorem r18key_ok : FnOk E r18key_id r18key_W := r18key_ok_of fun s b => by cases b <;> rfl
theorem txtN_leaf (s k : List UInt8) : leafK k (txtN s) := by show (1 : Int) ≠ 3; decide
theorem zn_leaf (k : List UInt8) : leafK k (⟨0, [], [], []⟩ : Node) := by show (0 : Int) ≠ 3; decide
def rtxV : List Node → List (List UInt8)
  | [] => []
  | x :: t => bif x.kind != 1 then [] else x.text :: rtxV t
def rtx0 (n : Node) : Bool := bif n.kind != 2 then true else decide ((32 : Int) < (n.kids.length : Int))
def rtxL (n : Node) : List (List UInt8) := bif rtx0 n then [] else rtxV n.kids
def rtxB (n : Node) : Bool := bif rtx0 n then false else (txsV n.kids).isSome
noncomputable def q18texts_W : FnW E := fn12 (E := E) .api_Node .l_str .bool (fun _ => true) rtxL rtxB
def q18texts_id : FuncId := 88
noncomputable def q18texts_O : Oracle E := orac [] [] [] []
noncomputable def q18texts_H : Hint E := Hint.mk [(0, [1, 4, 5])] [] [] [] []
noncomputable def q18texts_C0 (v0 : Nat) (v1 v2 : Int) (v3 : List UInt8) (v4 : List (List UInt8)) (v5 : List Node) (v6 : List (List UInt8)) : ASt E := ASt.mk 42 [(1, .ptr 0 0), (4, .row .str v0 1), (5, .d (.int .i64 v1))] [(0, .box [.d (.int .i64 v2), .d (.str v3), .d (.slice .str v4), .d (.slice .api_Node v5)]), (1, .row .str v6)] 2
noncomputable def q18texts_t (G : Nat → ASt E → Option (List (TV E))) (x0 : Node) : Option (List (TV E)) :=
  bif (bif (x0.kind != (2 : Int)) then true else (decide ((32 : Int) < (x0.kids.length : Int)))) then some [⟨.l_str, ([] : List (List UInt8))⟩, ⟨.bool, false⟩] else G 0 (q18texts_C0 0 0 x0.kind x0.text x0.keys x0.kids [])
theorem q18texts_e (G : Nat → ASt E → Option (List (TV E))) (x0 : Node) : runE q18texts_O q18texts_H G Tryz.f88 [⟨.api_Node, x0⟩] = q18texts_t G x0 := by kernel_rfl
noncomputable def q18texts_t0 (G : Nat → ASt E → Option (List (TV E))) (_v0 : Nat) (v1 v2 : Int) (v3 : List UInt8) (v4 : List (List UInt8)) (v5 : List Node) (v6 : List (List UInt8)) : Option (List (TV E)) :=
  bif (decide (v1 < (v5.length : Int))) then (bif (decide ((0 : Int) ≤ v1) && decide (v1 < (v5.length : Int))) then (bif ((List.getD v5 (Int.toNat v1) (dflt .api_Node)).kind != (1 : Int)) then some [⟨.l_str, v6⟩, ⟨.bool, false⟩] else (bif (decide ((0 : Int) ≤ v1) && decide (v1 < (v5.length : Int))) then (bif (decide ((v6.length + ([(List.getD v5 (Int.toNat v1) (dflt .api_Node)).text] : List (List UInt8)).length) * 16 ≤ maxBytes)) then G 0 (q18texts_C0 (v6.length + ([(List.getD v5 (Int.toNat v1) (dflt .api_Node)).text] : List (List UInt8)).length) (w64 (v1 + (1 : Int))) v2 v3 v4 v5 (v6 ++ ([(List.getD v5 (Int.toNat v1) (dflt .api_Node)).text] : List (List UInt8)))) else none) else none)) else none) else some [⟨.l_str, v6⟩, ⟨.bool, true⟩]
theorem q18texts_l0 (G : Nat → ASt E → Option (List (TV E))) (v0 : Nat) (v1 v2 : Int) (v3 : List UInt8) (v4 : List (List UInt8)) (v5 : List Node) (v6 : List (List UInt8)) : runL q18texts_O q18texts_H G Tryz.f88 0 (q18texts_C0 v0 v1 v2 v3 v4 v5 v6) = q18texts_t0 G v0 v1 v2 v3 v4 v5 v6 := by kernel_rfl
theorem q18texts_f : Tryz.prog.funcs[88]? = some Tryz.f88 := by kernel_rfl
theorem q18texts_n : (Tryz.f88.name == "runtime.NumGoroutine") = false := by kernel_rfl
theorem q18texts_b : Tryz.f88.body.isNone = false := by kernel_rfl
theorem q18texts_hO : OracleOk E q18texts_O := orac_ok .nil .nil .nil .nil
theorem q18texts_s0 {res : List (TV E)} {v0 : Nat} {v1 v2 : Int} {v3 : List UInt8} {v4 : List (List UInt8)} {v5 : List Node} {v6 : List (List UInt8)} (h : q18texts_t0 (Gr E Tryz.f88 res) v0 v1 v2 v3 v4 v5 v6 = some res) : Ev E Tryz.f88 res 0 (q18texts_C0 v0 v1 v2 v3 v4 v5 v6) := Ev.step q18texts_hO mix ((q18texts_l0 _ v0 v1 v2 v3 v4 v5 v6).trans h)
theorem q18texts_ok_of (h : ∀ (x0 : Node), q18texts_t (Gr E Tryz.f88 [⟨.l_str, rtxL x0⟩, ⟨.bool, rtxB x0⟩]) x0 = some [⟨.l_str, rtxL x0⟩, ⟨.bool, rtxB x0⟩]) : FnOk E q18texts_id q18texts_W := fn12_ok q18texts_hO mix q18texts_f q18texts_n q18texts_b (fun x0 _ => (q18texts_e _ x0).trans (h x0))
theorem q18texts_0 (n : Node) (h32 : n.kids.length ≤ 32) (u : Int) (t : List UInt8) (ks : List (List UInt8)) : ∀ (m i v : Nat) (out : List (List UInt8)), n.kids.length - i = m → i ≤ n.kids.length → out.length = i →
    Ev E Tryz.f88 [⟨.l_str, out ++ rtxV (n.kids.drop i)⟩, ⟨.bool, (txsV (n.kids.drop i)).isSome⟩] 0 (q18texts_C0 v i u t ks n.kids out) := by
  intro m
  induction m with
  | zero =>
    intro i v out h1 h2 h3
    refine q18texts_s0 ?_
    simp only [q18texts_t0, dge (show n.kids.length ≤ i by omega), cond_false, List.drop_eq_nil_of_le (show n.kids.length ≤ i by omega), rtxV, txsV, List.append_nil, Option.isSome_some]
  | succ m ih =>
    intro i v out h1 h2 h3
    have hi : i < n.kids.length := by omega
    have e1 : w64 ((i : Int) + 1) = ((i + 1 : Nat) : Int) := by rw [w64_id (by omega) (by omega)]; omega
    refine q18texts_s0 ?_
    rw [← List.getElem_cons_drop hi]
    simp only [q18texts_t0, dlt hi, d0, Bool.and_self, cond_true, e1, gd n.kids _ i hi, rtxV, txsV]
    simp only [dT (show (out.length + [n.kids[i].text].length) * 16 ≤ maxBytes by rw [mb, List.length_singleton]; omega), cond_true]
    cases n.kids[i].kind != 1 with
    | true => simp only [cond_true, List.append_nil]; rfl
    | false =>
      have := Gr_of (ih (i + 1) (out.length + [n.kids[i].text].length) (out ++ [n.kids[i].text]) (by omega) (by omega) (by rw [List.length_append, List.length_singleton]; omega))
      simp only [cond_false, List.append_assoc, List.singleton_append, Option.isSome_map] at this ⊢
      exact this
theorem q18texts_ok : FnOk E q18texts_id q18texts_W := q18texts_ok_of fun n => by
  simp only [q18texts_t]
  unfold rtxL rtxB
  change (bif rtx0 n then _ else _) = _
  cases h0 : rtx0 n with
  | true => rfl
  | false =>
    have h32 : n.kids.length ≤ 32 := by
      unfold rtx0 at h0
      cases hk : n.kind != 2 with
      | true => rw [hk] at h0; cases h0
      | false => rw [hk, cond_false, decide_eq_false_iff_not] at h0; omega
    have := Gr_of (q18texts_0 n h32 n.kind n.text n.keys n.kids.length 0 0 [] rfl (Nat.zero_le _) rfl)
    rw [List.drop_zero, List.nil_append] at this
    exact this
def fi : List UInt8 → Nat
  | [] => 0
  | c :: t => bif ((c.toNat : Int) != 61) then fi t + 1 else 0
def rp0 (f : List UInt8 → Bool) : List (List UInt8) → Node → Option Node
  | [], o => some o
  | s :: t, o => bif (bif !(f (s.take (fi s))) then true else inV o.keys (s.take (fi s))) then none else rp0 f t (withV o (s.take (fi s)) (txtN (s.drop (fi s + 1))))
def rp1 (f : List UInt8 → Bool) : List (List UInt8) → List Node → Node → Option Node
  | s :: t, y :: r, o => bif (bif !(f s) then true else decide ((1 : Int) < y.kind)) then none else rp1 f t r (withV o s (txtN y.text))
  | _, _, o => some o
def rpP (n : Node) (vars : Bool) : Option Node := bif rtxB n then rp0 (fun s => keyB s vars) (rtxL n) zn else bif n.kind != 3 then none else rp1 (fun s => keyB s vars) n.keys n.kids zn
def oV (q : Option Node) : Node := q.elim zn fun o => doneV o true
def oB (q : Option Node) : Bool := q.elim false fun o => doneB o true
def rprV (n : Node) (vars : Bool) : Node := oV (rpP n vars)
def rprB (n : Node) (vars : Bool) : Bool := oB (rpP n vars)
def okRp (n : Node) (_ : Bool) : Bool := decide (n.kind = 3 → n.keys.length = n.kids.length) && decide (n.keys.length ≤ 1000) && decide (n.kids.length ≤ 1000) && n.kids.all (fun y => decide (y.text.length ≤ 1000))
abbrev oR (q : Option Node) : List (TV E) := [⟨.api_Node, oV q⟩, ⟨.bool, oB q⟩]
noncomputable def q18pairs_W : FnW E := fn22 (E := E) .api_Node .bool .api_Node .bool okRp rprV rprB
def q18pairs_id : FuncId := 36
noncomputable def q18pairs_O : Oracle E := orac [(91, rin_W), (92, rwith_W), (85, r18text_W), (93, r18done_W), (90, r18key_W), (88, q18texts_W)] [] [] []
noncomputable def q18pairs_H : Hint E := Hint.mk [(0, [1, 4, 6, 7, 9]), (1, [1, 4, 6, 7, 9, 10]), (2, [1, 2, 4, 6, 13])] [] [(0, [(6, some 2, false, .str), (6, some 3, false, .api_Node)]), (2, [(6, some 2, false, .str), (6, some 3, false, .api_Node)])] [] []
noncomputable def q18pairs_C0 (v0 : Bool) (v1 : List (List UInt8)) (v2 v3 : Int) (v4 : List UInt8) (v5 : Int) (v6 : List UInt8) (v7 : List (List UInt8)) (v8 : List Node) : ASt E := ASt.mk 132 [(1, .d (.bool v0)), (4, .ptr 0 0), (6, .ptr 1 0), (7, .d (.slice .str v1)), (9, .d (.int .i64 v2))] [(0, .box [.d (.int .i64 v3), .d (.str v4), .d (.raw (.slice none 0 0)), .d (.raw (.slice none 0 0))]), (1, .box [.d (.int .i64 v5), .d (.str v6), .d (.slice .str v7), .d (.slice .api_Node v8)])] 2
noncomputable def q18pairs_C1 (v0 : Bool) (v1 : List (List UInt8)) (v2 v3 v4 : Int) (v5 : List UInt8) (v6 : Int) (v7 : List UInt8) (v8 : List (List UInt8)) (v9 : List Node) : ASt E := ASt.mk 132 [(1, .d (.bool v0)), (4, .ptr 0 0), (6, .ptr 1 0), (7, .d (.slice .str v1)), (9, .d (.int .i64 v2)), (10, .d (.int .i64 v3))] [(0, .box [.d (.int .i64 v4), .d (.str v5), .d (.raw (.slice none 0 0)), .d (.raw (.slice none 0 0))]), (1, .box [.d (.int .i64 v6), .d (.str v7), .d (.slice .str v8), .d (.slice .api_Node v9)])] 2
noncomputable def q18pairs_C2 (v0 : Bool) (v1 v2 : Int) (v3 : List UInt8) (v4 : List (List UInt8)) (v5 : List Node) (v6 : Int) (v7 : List UInt8) (v8 : Int) (v9 : List UInt8) (v10 : List (List UInt8)) (v11 : List Node) : ASt E := ASt.mk 132 [(1, .d (.bool v0)), (2, .ptr 0 0), (4, .ptr 1 0), (6, .ptr 2 0), (13, .d (.int .i64 v1))] [(0, .box [.d (.int .i64 v2), .d (.str v3), .d (.slice .str v4), .d (.slice .api_Node v5)]), (1, .box [.d (.int .i64 v6), .d (.str v7), .d (.raw (.slice none 0 0)), .d (.raw (.slice none 0 0))]), (2, .box [.d (.int .i64 v8), .d (.str v9), .d (.slice .str v10), .d (.slice .api_Node v11)])] 3
noncomputable def q18pairs_t (G : Nat → ASt E → Option (List (TV E))) (x0 : Node) (x1 : Bool) : Option (List (TV E)) :=
  bif (rtxB ⟨x0.kind, x0.text, x0.keys, x0.kids⟩) then G 0 (q18pairs_C0 x1 (rtxL ⟨x0.kind, x0.text, x0.keys, x0.kids⟩) 0 0 [] 0 [] [] []) else (bif (x0.kind != (3 : Int)) then some [⟨.api_Node, (⟨0, [], [], []⟩ : Node)⟩, ⟨.bool, false⟩] else G 2 (q18pairs_C2 x1 0 x0.kind x0.text x0.keys x0.kids 0 [] 0 [] [] []))
theorem q18pairs_e (G : Nat → ASt E → Option (List (TV E))) (x0 : Node) (x1 : Bool) : runE q18pairs_O q18pairs_H G Tryz.f36 [⟨.api_Node, x0⟩, ⟨.bool, x1⟩] = q18pairs_t G x0 x1 := by kernel_rfl
noncomputable def q18pairs_t0 (G : Nat → ASt E → Option (List (TV E))) (v0 : Bool) (v1 : List (List UInt8)) (v2 v3 : Int) (v4 : List UInt8) (v5 : Int) (v6 : List UInt8) (v7 : List (List UInt8)) (v8 : List Node) : Option (List (TV E)) :=
  bif (decide (v2 < (v1.length : Int))) then G 1 (q18pairs_C1 v0 v1 v2 0 v3 v4 v5 v6 v7 v8) else (bif (okDn ⟨v5, v6, v7, v8⟩ true) then some [⟨.api_Node, (⟨(doneV ⟨v5, v6, v7, v8⟩ true).kind, (doneV ⟨v5, v6, v7, v8⟩ true).text, (doneV ⟨v5, v6, v7, v8⟩ true).keys, (doneV ⟨v5, v6, v7, v8⟩ true).kids⟩ : Node)⟩, ⟨.bool, (doneB ⟨v5, v6, v7, v8⟩ true)⟩] else none)
theorem q18pairs_l0 (G : Nat → ASt E → Option (List (TV E))) (v0 : Bool) (v1 : List (List UInt8)) (v2 v3 : Int) (v4 : List UInt8) (v5 : Int) (v6 : List UInt8) (v7 : List (List UInt8)) (v8 : List Node) : runL q18pairs_O q18pairs_H G Tryz.f36 0 (q18pairs_C0 v0 v1 v2 v3 v4 v5 v6 v7 v8) = q18pairs_t0 G v0 v1 v2 v3 v4 v5 v6 v7 v8 := by kernel_rfl
noncomputable def q18pairs_t1 (G : Nat → ASt E → Option (List (TV E))) (v0 : Bool) (v1 : List (List UInt8)) (v2 v3 v4 : Int) (v5 : List UInt8) (v6 : Int) (v7 : List UInt8) (v8 : List (List UInt8)) (v9 : List Node) : Option (List (TV E)) :=
  bif (decide ((0 : Int) ≤ v2) && decide (v2 < (v1.length : Int))) then (bif ((decide ((0 : Int) ≤ v2) && decide (v2 < (v1.length : Int))) || !(decide (v3 < ((List.getD v1 (Int.toNat v2) (dflt .str)).length : Int)))) then (bif ((decide ((0 : Int) ≤ v3) && decide (v3 < ((List.getD v1 (Int.toNat v2) (dflt .str)).length : Int))) || !(decide (v3 < ((List.getD v1 (Int.toNat v2) (dflt .str)).length : Int)))) then (bif (bif (decide (v3 < ((List.getD v1 (Int.toNat v2) (dflt .str)).length : Int))) then ((((List.getD (List.getD v1 (Int.toNat v2) (dflt .str)) (Int.toNat v3) 0).toNat : Nat) : Int) != (61 : Int)) else false) then G 1 (q18pairs_C1 v0 v1 v2 (w64 (v3 + (1 : Int))) v4 v5 v6 v7 v8 v9) else (bif (decide ((0 : Int) ≤ v2) && decide (v2 < (v1.length : Int))) then (bif (decide (v3 < ((List.getD v1 (Int.toNat v2) (dflt .str)).length : Int))) then (bif (decide ((0 : Int) ≤ v2) && decide (v2 < (v1.length : Int))) then (bif (decide ((0 : Int) ≤ (w64 (v3 + (1 : Int)))) && decide ((w64 (v3 + (1 : Int))) ≤ ((List.getD v1 (Int.toNat v2) (dflt .str)).length : Int)) && decide (((List.getD v1 (Int.toNat v2) (dflt .str)).length : Int) ≤ ((List.getD v1 (Int.toNat v2) (dflt .str)).length : Int))) then (bif (decide ((0 : Int) ≤ v2) && decide (v2 < (v1.length : Int))) then (bif (decide ((0 : Int) ≤ (0 : Int)) && decide ((0 : Int) ≤ v3) && decide (v3 ≤ ((List.getD v1 (Int.toNat v2) (dflt .str)).length : Int))) then (bif (((fun l _ => ln6 l) v8 (List.take (Int.toNat v3 - Int.toNat 0) (List.drop (Int.toNat 0) (List.getD v1 (Int.toNat v2) (dflt .str))))) || !(!(!(keyB (List.take (Int.toNat v3 - Int.toNat 0) (List.drop (Int.toNat 0) (List.getD v1 (Int.toNat v2) (dflt .str)))) v0)))) then (bif (bif (!(keyB (List.take (Int.toNat v3 - Int.toNat 0) (List.drop (Int.toNat 0) (List.getD v1 (Int.toNat v2) (dflt .str)))) v0)) then true else (inV v8 (List.take (Int.toNat v3 - Int.toNat 0) (List.drop (Int.toNat 0) (List.getD v1 (Int.toNat v2) (dflt .str)))))) then some [⟨.api_Node, (⟨0, [], [], []⟩ : Node)⟩, ⟨.bool, false⟩] else (bif (okWi ⟨v6, v7, v8, v9⟩ (List.take (Int.toNat v3 - Int.toNat 0) (List.drop (Int.toNat 0) (List.getD v1 (Int.toNat v2) (dflt .str)))) (txtN (List.take (Int.toNat ((List.getD v1 (Int.toNat v2) (dflt .str)).length : Int) - Int.toNat (w64 (v3 + (1 : Int)))) (List.drop (Int.toNat (w64 (v3 + (1 : Int)))) (List.getD v1 (Int.toNat v2) (dflt .str)))))) then G 0 (q18pairs_C0 v0 v1 (w64 (v2 + (1 : Int))) v4 v5 ((withV ⟨v6, v7, v8, v9⟩ (List.take (Int.toNat v3 - Int.toNat 0) (List.drop (Int.toNat 0) (List.getD v1 (Int.toNat v2) (dflt .str)))) (txtN (List.take (Int.toNat ((List.getD v1 (Int.toNat v2) (dflt .str)).length : Int) - Int.toNat (w64 (v3 + (1 : Int)))) (List.drop (Int.toNat (w64 (v3 + (1 : Int)))) (List.getD v1 (Int.toNat v2) (dflt .str)))))).kind) ((withV ⟨v6, v7, v8, v9⟩ (List.take (Int.toNat v3 - Int.toNat 0) (List.drop (Int.toNat 0) (List.getD v1 (Int.toNat v2) (dflt .str)))) (txtN (List.take (Int.toNat ((List.getD v1 (Int.toNat v2) (dflt .str)).length : Int) - Int.toNat (w64 (v3 + (1 : Int)))) (List.drop (Int.toNat (w64 (v3 + (1 : Int)))) (List.getD v1 (Int.toNat v2) (dflt .str)))))).text) ((withV ⟨v6, v7, v8, v9⟩ (List.take (Int.toNat v3 - Int.toNat 0) (List.drop (Int.toNat 0) (List.getD v1 (Int.toNat v2) (dflt .str)))) (txtN (List.take (Int.toNat ((List.getD v1 (Int.toNat v2) (dflt .str)).length : Int) - Int.toNat (w64 (v3 + (1 : Int)))) (List.drop (Int.toNat (w64 (v3 + (1 : Int)))) (List.getD v1 (Int.toNat v2) (dflt .str)))))).keys) ((withV ⟨v6, v7, v8, v9⟩ (List.take (Int.toNat v3 - Int.toNat 0) (List.drop (Int.toNat 0) (List.getD v1 (Int.toNat v2) (dflt .str)))) (txtN (List.take (Int.toNat ((List.getD v1 (Int.toNat v2) (dflt .str)).length : Int) - Int.toNat (w64 (v3 + (1 : Int)))) (List.drop (Int.toNat (w64 (v3 + (1 : Int)))) (List.getD v1 (Int.toNat v2) (dflt .str)))))).kids)) else none)) else none) else none) else none) else none) else none) else (bif (decide ((0 : Int) ≤ v2) && decide (v2 < (v1.length : Int))) then (bif (decide ((0 : Int) ≤ (0 : Int)) && decide ((0 : Int) ≤ v3) && decide (v3 ≤ ((List.getD v1 (Int.toNat v2) (dflt .str)).length : Int))) then (bif (((fun l _ => ln6 l) v8 (List.take (Int.toNat v3 - Int.toNat 0) (List.drop (Int.toNat 0) (List.getD v1 (Int.toNat v2) (dflt .str))))) || !(!(!(keyB (List.take (Int.toNat v3 - Int.toNat 0) (List.drop (Int.toNat 0) (List.getD v1 (Int.toNat v2) (dflt .str)))) v0)))) then (bif (bif (!(keyB (List.take (Int.toNat v3 - Int.toNat 0) (List.drop (Int.toNat 0) (List.getD v1 (Int.toNat v2) (dflt .str)))) v0)) then true else (inV v8 (List.take (Int.toNat v3 - Int.toNat 0) (List.drop (Int.toNat 0) (List.getD v1 (Int.toNat v2) (dflt .str)))))) then some [⟨.api_Node, (⟨0, [], [], []⟩ : Node)⟩, ⟨.bool, false⟩] else (bif (okWi ⟨v6, v7, v8, v9⟩ (List.take (Int.toNat v3 - Int.toNat 0) (List.drop (Int.toNat 0) (List.getD v1 (Int.toNat v2) (dflt .str)))) (txtN [])) then G 0 (q18pairs_C0 v0 v1 (w64 (v2 + (1 : Int))) v4 v5 ((withV ⟨v6, v7, v8, v9⟩ (List.take (Int.toNat v3 - Int.toNat 0) (List.drop (Int.toNat 0) (List.getD v1 (Int.toNat v2) (dflt .str)))) (txtN [])).kind) ((withV ⟨v6, v7, v8, v9⟩ (List.take (Int.toNat v3 - Int.toNat 0) (List.drop (Int.toNat 0) (List.getD v1 (Int.toNat v2) (dflt .str)))) (txtN [])).text) ((withV ⟨v6, v7, v8, v9⟩ (List.take (Int.toNat v3 - Int.toNat 0) (List.drop (Int.toNat 0) (List.getD v1 (Int.toNat v2) (dflt .str)))) (txtN [])).keys) ((withV ⟨v6, v7, v8, v9⟩ (List.take (Int.toNat v3 - Int.toNat 0) (List.drop (Int.toNat 0) (List.getD v1 (Int.toNat v2) (dflt .str)))) (txtN [])).kids)) else none)) else none) else none) else none)) else none)) else none) else none) else none
theorem q18pairs_l1 (G : Nat → ASt E → Option (List (TV E))) (v0 : Bool) (v1 : List (List UInt8)) (v2 v3 v4 : Int) (v5 : List UInt8) (v6 : Int) (v7 : List UInt8) (v8 : List (List UInt8)) (v9 : List Node) : runL q18pairs_O q18pairs_H G Tryz.f36 1 (q18pairs_C1 v0 v1 v2 v3 v4 v5 v6 v7 v8 v9) = q18pairs_t1 G v0 v1 v2 v3 v4 v5 v6 v7 v8 v9 := by kernel_rfl
noncomputable def q18pairs_t2 (G : Nat → ASt E → Option (List (TV E))) (v0 : Bool) (v1 v2 : Int) (v3 : List UInt8) (v4 : List (List UInt8)) (v5 : List Node) (v6 : Int) (v7 : List UInt8) (v8 : Int) (v9 : List UInt8) (v10 : List (List UInt8)) (v11 : List Node) : Option (List (TV E)) :=
  bif (decide (v1 < (v4.length : Int))) then (bif (decide ((0 : Int) ≤ v1) && decide (v1 < (v4.length : Int))) then (bif ((decide ((0 : Int) ≤ v1) && decide (v1 < (v5.length : Int))) || !(!(!(keyB (List.getD v4 (Int.toNat v1) (dflt .str)) v0)))) then (bif (bif (!(keyB (List.getD v4 (Int.toNat v1) (dflt .str)) v0)) then true else (decide ((1 : Int) < (List.getD v5 (Int.toNat v1) (dflt .api_Node)).kind))) then some [⟨.api_Node, (⟨0, [], [], []⟩ : Node)⟩, ⟨.bool, false⟩] else (bif (decide ((0 : Int) ≤ v1) && decide (v1 < (v4.length : Int))) then (bif (decide ((0 : Int) ≤ v1) && decide (v1 < (v5.length : Int))) then (bif (okWi ⟨v8, v9, v10, v11⟩ (List.getD v4 (Int.toNat v1) (dflt .str)) (txtN ((List.getD v5 (Int.toNat v1) (dflt .api_Node)).text))) then G 2 (q18pairs_C2 v0 (w64 (v1 + (1 : Int))) v2 v3 v4 v5 v6 v7 ((withV ⟨v8, v9, v10, v11⟩ (List.getD v4 (Int.toNat v1) (dflt .str)) (txtN ((List.getD v5 (Int.toNat v1) (dflt .api_Node)).text))).kind) ((withV ⟨v8, v9, v10, v11⟩ (List.getD v4 (Int.toNat v1) (dflt .str)) (txtN ((List.getD v5 (Int.toNat v1) (dflt .api_Node)).text))).text) ((withV ⟨v8, v9, v10, v11⟩ (List.getD v4 (Int.toNat v1) (dflt .str)) (txtN ((List.getD v5 (Int.toNat v1) (dflt .api_Node)).text))).keys) ((withV ⟨v8, v9, v10, v11⟩ (List.getD v4 (Int.toNat v1) (dflt .str)) (txtN ((List.getD v5 (Int.toNat v1) (dflt .api_Node)).text))).kids)) else none) else none) else none)) else none) else none) else (bif (okDn ⟨v8, v9, v10, v11⟩ true) then some [⟨.api_Node, (⟨(doneV ⟨v8, v9, v10, v11⟩ true).kind, (doneV ⟨v8, v9, v10, v11⟩ true).text, (doneV ⟨v8, v9, v10, v11⟩ true).keys, (doneV ⟨v8, v9, v10, v11⟩ true).kids⟩ : Node)⟩, ⟨.bool, (doneB ⟨v8, v9, v10, v11⟩ true)⟩] else none)
theorem q18pairs_l2 (G : Nat → ASt E → Option (List (TV E))) (v0 : Bool) (v1 v2 : Int) (v3 : List UInt8) (v4 : List (List UInt8)) (v5 : List Node) (v6 : Int) (v7 : List UInt8) (v8 : Int) (v9 : List UInt8) (v10 : List (List UInt8)) (v11 : List Node) : runL q18pairs_O q18pairs_H G Tryz.f36 2 (q18pairs_C2 v0 v1 v2 v3 v4 v5 v6 v7 v8 v9 v10 v11) = q18pairs_t2 G v0 v1 v2 v3 v4 v5 v6 v7 v8 v9 v10 v11 := by kernel_rfl
theorem q18pairs_f : Tryz.prog.funcs[36]? = some Tryz.f36 := by kernel_rfl
theorem q18pairs_n : (Tryz.f36.name == "runtime.NumGoroutine") = false := by kernel_rfl
theorem q18pairs_b : Tryz.f36.body.isNone = false := by kernel_rfl
theorem q18pairs_hO : OracleOk E q18pairs_O := orac_ok (.cons rin_ok (.cons rwith_ok (.cons r18text_ok (.cons r18done_ok (.cons r18key_ok (.cons q18texts_ok .nil)))))) .nil .nil .nil
theorem q18pairs_s0 {res : List (TV E)} {v0 : Bool} {v1 : List (List UInt8)} {v2 v3 : Int} {v4 : List UInt8} {v5 : Int} {v6 : List UInt8} {v7 : List (List UInt8)} {v8 : List Node} (h : q18pairs_t0 (Gr E Tryz.f36 res) v0 v1 v2 v3 v4 v5 v6 v7 v8 = some res) : Ev E Tryz.f36 res 0 (q18pairs_C0 v0 v1 v2 v3 v4 v5 v6 v7 v8) := Ev.step q18pairs_hO mix ((q18pairs_l0 _ v0 v1 v2 v3 v4 v5 v6 v7 v8).trans h)
theorem q18pairs_s1 {res : List (TV E)} {v0 : Bool} {v1 : List (List UInt8)} {v2 v3 v4 : Int} {v5 : List UInt8} {v6 : Int} {v7 : List UInt8} {v8 : List (List UInt8)} {v9 : List Node} (h : q18pairs_t1 (Gr E Tryz.f36 res) v0 v1 v2 v3 v4 v5 v6 v7 v8 v9 = some res) : Ev E Tryz.f36 res 1 (q18pairs_C1 v0 v1 v2 v3 v4 v5 v6 v7 v8 v9) := Ev.step q18pairs_hO mix ((q18pairs_l1 _ v0 v1 v2 v3 v4 v5 v6 v7 v8 v9).trans h)
theorem q18pairs_s2 {res : List (TV E)} {v0 : Bool} {v1 v2 : Int} {v3 : List UInt8} {v4 : List (List UInt8)} {v5 : List Node} {v6 : Int} {v7 : List UInt8} {v8 : Int} {v9 : List UInt8} {v10 : List (List UInt8)} {v11 : List Node} (h : q18pairs_t2 (Gr E Tryz.f36 res) v0 v1 v2 v3 v4 v5 v6 v7 v8 v9 v10 v11 = some res) : Ev E Tryz.f36 res 2 (q18pairs_C2 v0 v1 v2 v3 v4 v5 v6 v7 v8 v9 v10 v11) := Ev.step q18pairs_hO mix ((q18pairs_l2 _ v0 v1 v2 v3 v4 v5 v6 v7 v8 v9 v10 v11).trans h)
theorem q18pairs_ok_of (h : ∀ (x0 : Node) (x1 : Bool), okRp x0 x1 = true → q18pairs_t (Gr E Tryz.f36 [⟨.api_Node, rprV x0 x1⟩, ⟨.bool, rprB x0 x1⟩]) x0 x1 = some [⟨.api_Node, rprV x0 x1⟩, ⟨.bool, rprB x0 x1⟩]) : FnOk E q18pairs_id q18pairs_W := fn22_ok q18pairs_hO mix q18pairs_f q18pairs_n q18pairs_b (fun x0 x1 hk => (q18pairs_e _ x0 x1).trans (h x0 x1 hk))
theorem q18pairs_1 (vars : Bool) (l : List (List UInt8)) (hl : l.length ≤ 1000) (i : Nat) (hi : i < l.length) (hx : l[i].length ≤ 1000) (u : Int) (t : List UInt8) (o : Node) (ho : Bq leafK 1 i o) (R : List (TV E))
    (Kn : (bif !(keyB (l[i].take (fi l[i])) vars) then true else inV o.keys (l[i].take (fi l[i]))) = true → R = oR none)
    (K : (bif !(keyB (l[i].take (fi l[i])) vars) then true else inV o.keys (l[i].take (fi l[i]))) = false → Ev E Tryz.f36 R 0 (q18pairs_C0 vars l ((i + 1 : Nat) : Int) u t (withV o (l[i].take (fi l[i])) (txtN (l[i].drop (fi l[i] + 1)))).kind (withV o (l[i].take (fi l[i])) (txtN (l[i].drop (fi l[i] + 1)))).text (withV o (l[i].take (fi l[i])) (txtN (l[i].drop (fi l[i] + 1)))).keys (withV o (l[i].take (fi l[i])) (txtN (l[i].drop (fi l[i] + 1)))).kids)) :
    ∀ (m a : Nat), l[i].length - a = m → a ≤ l[i].length → a + fi (l[i].drop a) = fi l[i] → Ev E Tryz.f36 R 1 (q18pairs_C1 vars l i a u t o.kind o.text o.keys o.kids) := by
  have e1 : w64 ((i : Int) + 1) = ((i + 1 : Nat) : Int) := by rw [w64_id (by omega) (by omega)]; omega
  have oL : ln6 o.keys = true := ln6_iff.2 (by have := ho.len; omega)
  have oW := ho.ok (by omega)
  have stop : ∀ (a : Nat), a = fi l[i] → a ≤ l[i].length → (bif decide ((a : Int) < (l[i].length : Int)) then ((List.getD l[i] a 0).toNat : Int) != 61 else false) = false → ((decide ((a : Int) < (l[i].length : Int))) || !(decide ((a : Int) < (l[i].length : Int)))) = true →
      Ev E Tryz.f36 R 1 (q18pairs_C1 vars l i a u t o.kind o.text o.keys o.kids) := by
    intro a hf ha h1 h2
    refine q18pairs_s1 ?_
    simp only [q18pairs_t1, dlt hi, d0, d00, Bool.and_self, Bool.true_or, Bool.true_and, cond_true, gd l _ i hi]
    simp only [Int.toNat_natCast, h1, h2, cond_true, cond_false, dle ha, cutT, oL, Bool.true_or, node_eta, oW, e1]
    subst hf
    by_cases hlt : fi l[i] < l[i].length
    · have e2 : w64 ((fi l[i] : Int) + 1) = ((fi l[i] + 1 : Nat) : Int) := by rw [w64_id (by omega) (by omega)]; omega
      simp only [dlt hlt, cond_true, e2, d0, dle (show fi l[i] + 1 ≤ l[i].length by omega), dlr, Bool.and_self, Int.toNat_natCast, cutN]
      cases hb : (bif !(keyB (l[i].take (fi l[i])) vars) then true else inV o.keys (l[i].take (fi l[i]))) with
      | true => rw [Kn hb]; rfl
      | false => exact Gr_of (K hb)
    · simp only [dge (show l[i].length ≤ fi l[i] by omega), cond_false]
      have hdr : l[i].drop (fi l[i] + 1) = [] := List.drop_eq_nil_of_le (by omega)
      rw [hdr] at K
      cases hb : (bif !(keyB (l[i].take (fi l[i])) vars) then true else inV o.keys (l[i].take (fi l[i]))) with
      | true => rw [Kn hb]; rfl
      | false => exact Gr_of (K hb)
  intro m
  induction m with
  | zero =>
    intro a h1 h2 h3
    have hd := dge (show l[i].length ≤ a by omega)
    rw [List.drop_eq_nil_of_le (show l[i].length ≤ a by omega)] at h3
    exact stop a (by simpa [fi] using h3) h2 (by rw [hd]; rfl) (by rw [hd]; rfl)
  | succ m ih =>
    intro a h1 h2 h3
    have ha : a < l[i].length := by omega
    have hd := dlt ha
    have hg : List.getD l[i] a 0 = l[i][a] := gd l[i] 0 a ha
    have h3 : a + (bif ((l[i][a].toNat : Int) != 61) then fi (l[i].drop (a + 1)) + 1 else 0) = fi l[i] := by
      rw [← List.getElem_cons_drop ha] at h3
      exact h3
    cases hq : ((l[i][a].toNat : Int) != 61) with
    | false =>
      rw [hq, cond_false] at h3
      exact stop a (by omega) h2 (by rw [hd, cond_true]; exact (congrArg (fun c : UInt8 => ((c.toNat : Int) != 61)) hg).trans hq) (by rw [hd]; rfl)
    | true =>
      rw [hq, cond_true] at h3
      have e2 : w64 ((a : Int) + 1) = ((a + 1 : Nat) : Int) := by rw [w64_id (by omega) (by omega)]; omega
      refine q18pairs_s1 ?_
      simp only [q18pairs_t1, dlt hi, d0, d00, Bool.and_self, Bool.true_or, Bool.true_and, cond_true, gd l _ i hi]
      simp only [Int.toNat_natCast, hd, Bool.true_or, cond_true, hg, hq, e2]
      exact Gr_of (ih (a + 1) (by omega) (by omega) (by omega))
theorem q18pairs_0 (vars : Bool) (l : List (List UInt8)) (hl : l.length ≤ 1000) (hx : ∀ x ∈ l, x.length ≤ 1000) (u : Int) (t : List UInt8) : ∀ (m i : Nat) (o : Node), l.length - i = m → i ≤ l.length → Bq leafK 1 i o →
    Ev E Tryz.f36 (oR (rp0 (fun s => keyB s vars) (l.drop i) o)) 0 (q18pairs_C0 vars l i u t o.kind o.text o.keys o.kids) := by
  intro m
  induction m with
  | zero =>
    intro i o h1 h2 h3
    refine q18pairs_s0 ?_
    simp only [q18pairs_t0, dge (show l.length ≤ i by omega), cond_false, node_eta, List.drop_eq_nil_of_le (show l.length ≤ i by omega), rp0, h3.done_ok (by decide) true, cond_true]
    rfl
  | succ m ih =>
    intro i o h1 h2 h3
    have hi : i < l.length := by omega
    refine q18pairs_s0 ?_
    simp only [q18pairs_t0, dlt hi, cond_true]
    refine Gr_of (q18pairs_1 vars l hl i hi (hx _ (List.getElem_mem hi)) u t o h3 _ (fun hb => ?_) (fun hb => ?_) _ 0 rfl (Nat.zero_le _) (by rw [List.drop_zero]; omega))
    · rw [← List.getElem_cons_drop hi]; unfold rp0; rw [hb]; rfl
    · rw [← List.getElem_cons_drop hi]; unfold rp0; rw [hb]
      exact ih (i + 1) _ (by omega) (by omega) (h3.put (txtN_leaf _ _) (txtN_wg _ 0))
theorem q18pairs_2 (vars : Bool) (n : Node) (hk : n.keys.length = n.kids.length) (hl : n.keys.length ≤ 1000) (u2 : Int) (u3 : List UInt8) (u : Int) (t : List UInt8) : ∀ (m i : Nat) (o : Node), n.keys.length - i = m → i ≤ n.keys.length → Bq leafK 1 i o →
    Ev E Tryz.f36 (oR (rp1 (fun s => keyB s vars) (n.keys.drop i) (n.kids.drop i) o)) 2 (q18pairs_C2 vars i u2 u3 n.keys n.kids u t o.kind o.text o.keys o.kids) := by
  intro m
  induction m with
  | zero =>
    intro i o h1 h2 h4
    refine q18pairs_s2 ?_
    simp only [q18pairs_t2, dge (show n.keys.length ≤ i by omega), cond_false, node_eta, List.drop_eq_nil_of_le (show n.keys.length ≤ i by omega), rp1, h4.done_ok (by decide) true, cond_true]
    rfl
  | succ m ih =>
    intro i o h1 h2 h4
    have hi : i < n.keys.length := by omega
    have hj : i < n.kids.length := by omega
    have e1 : w64 ((i : Int) + 1) = ((i + 1 : Nat) : Int) := by rw [w64_id (by omega) (by omega)]; omega
    refine q18pairs_s2 ?_
    rw [← List.getElem_cons_drop hi, ← List.getElem_cons_drop hj]
    simp only [q18pairs_t2, dlt hi, dlt hj, d0, Bool.and_self, Bool.true_or, cond_true, gd n.keys _ i hi, gd n.kids _ i hj, node_eta, h4.ok (by omega), e1, rp1]
    cases hb : (bif !(keyB n.keys[i] vars) then true else decide ((1 : Int) < n.kids[i].kind)) with
    | true => rfl
    | false => exact Gr_of (ih (i + 1) _ (by omega) (by omega) (h4.put (txtN_leaf _ _) (txtN_wg _ 0)))
theorem rtxV_len : ∀ l : List Node, (rtxV l).length ≤ l.length
  | [] => Nat.le_refl _
  | x :: t => by
    unfold rtxV
    cases x.kind != 1 with
    | true => exact Nat.zero_le _
    | false => have := rtxV_len t; simp only [cond_false, List.length_cons]; omega
theorem rtxL_len (n : Node) : (rtxL n).length ≤ n.kids.length := by
  unfold rtxL
  cases rtx0 n with
  | true => exact Nat.zero_le _
  | false => exact rtxV_len _
theorem rtxV_txt {B : Nat} : ∀ l : List Node, (∀ y ∈ l, y.text.length ≤ B) → ∀ x ∈ rtxV l, x.length ≤ B
  | [], _, x, hx => by cases hx
  | y :: t, h, x, hx => by
    unfold rtxV at hx
    cases hb : y.kind != 1 with
    | true => rw [hb] at hx; cases hx
    | false =>
      rw [hb, cond_false] at hx
      rcases List.mem_cons.1 hx with rfl | hx
      · exact h y List.mem_cons_self
      · exact rtxV_txt t (fun z hz => h z (List.mem_cons_of_mem _ hz)) x hx
theorem rtxL_txt {B : Nat} {n : Node} (h : ∀ y ∈ n.kids, y.text.length ≤ B) : ∀ x ∈ rtxL n, x.length ≤ B := by
  unfold rtxL
  cases rtx0 n with
  | true => intro x hx; cases hx
  | false => exact rtxV_txt _ h
theorem q18pairs_ok : FnOk E q18pairs_id q18pairs_W := q18pairs_ok_of fun n vars hk => by
  simp only [okRp, Bool.and_eq_true, decide_eq_true_eq, List.all_eq_true] at hk
  obtain ⟨⟨⟨h1, h2⟩, h3⟩, h4⟩ := hk
  have z : Bq leafK 1 0 ⟨0, [], [], []⟩ := Bq.nil (.inl rfl)
  simp only [q18pairs_t, node_eta]
  unfold rprV rprB rpP
  cases rtxB n with
  | true => exact Gr_of (q18pairs_0 vars _ (Nat.le_trans (rtxL_len n) h3) (rtxL_txt h4) _ _ _ 0 ⟨0, [], [], []⟩ rfl (Nat.zero_le _) z)
  | false =>
    simp only [cond_false]
    by_cases h : n.kind = 3
    · rw [neF h]; exact Gr_of (q18pairs_2 vars n (h1 h) h2 _ _ _ _ _ 0 ⟨0, [], [], []⟩ rfl (Nat.zero_le _) z)
    · rw [neT h]; rfl
def rs1 (f : List UInt8 → Bool) : List (List UInt8) → Bool → Node → Node × Bool
  | [], b, o => (o, b)
  | s :: t, b, o => bif b then rs1 f t (f s) (withV o s zn) else (o, false)
def rs0 (n : Node) : Bool := bif n.kind == 3 then decide ((n.keys.length : Int) ≤ 32) else false
def rsP (n : Node) : Node × Bool := bif rs0 n then rs1 (nameV badS) n.keys (!(n.kids.any badKid)) zn else rs1 (nameV badS) (rtxL n) (rtxB n) zn
def rsetV (n : Node) : Node := doneV (rsP n).1 (rsP n).2
def rsetB (n : Node) : Bool := doneB (rsP n).1 (rsP n).2
def okRs (n : Node) : Bool := decide (n.keys.length ≤ 1000) && decide (n.kids.length ≤ 1000)
noncomputable def q18set_W : FnW E := fn12 (E := E) .api_Node .api_Node .bool okRs rsetV rsetB
def q18set_id : FuncId := 37
noncomputable def q18set_O : Oracle E := orac [(94, rservice_W), (92, rwith_W), (93, r18done_W), (88, q18texts_W)] [] [] []
noncomputable def q18set_H : Hint E := Hint.mk [(0, [1, 2, 4, 5, 6]), (1, [2, 4, 5, 7, 8])] [] [(1, [(7, some 2, false, .str), (7, some 3, false, .api_Node)])] [] []
noncomputable def q18set_C0 (v0 : List (List UInt8)) (v1 : Bool) (v2 v3 : Int) (v4 : List UInt8) (v5 : List (List UInt8)) (v6 : List Node) (v7 : Int) (v8 : List UInt8) : ASt E := ASt.mk 85 [(1, .ptr 0 0), (2, .ptr 1 0), (4, .d (.slice .str v0)), (5, .d (.bool v1)), (6, .d (.int .i64 v2))] [(0, .box [.d (.int .i64 v3), .d (.str v4), .d (.slice .str v5), .d (.slice .api_Node v6)]), (1, .box [.d (.int .i64 v7), .d (.str v8), .d (.raw (.slice none 0 0)), .d (.raw (.slice none 0 0))])] 2
noncomputable def q18set_C1 (v0 : List (List UInt8)) (v1 : Bool) (v2 v3 : Int) (v4 : List UInt8) (v5 : Int) (v6 : List UInt8) (v7 : List (List UInt8)) (v8 : List Node) : ASt E := ASt.mk 85 [(2, .ptr 0 0), (4, .d (.slice .str v0)), (5, .d (.bool v1)), (7, .ptr 1 0), (8, .d (.int .i64 v2))] [(0, .box [.d (.int .i64 v3), .d (.str v4), .d (.raw (.slice none 0 0)), .d (.raw (.slice none 0 0))]), (1, .box [.d (.int .i64 v5), .d (.str v6), .d (.slice .str v7), .d (.slice .api_Node v8)])] 2
noncomputable def q18set_t (G : Nat → ASt E → Option (List (TV E))) (x0 : Node) : Option (List (TV E)) :=
  bif (bif (x0.kind == (3 : Int)) then (decide ((x0.keys.length : Int) ≤ (32 : Int))) else false) then G 0 (q18set_C0 x0.keys true 0 x0.kind x0.text x0.keys x0.kids 0 []) else G 1 (q18set_C1 (rtxL ⟨x0.kind, x0.text, x0.keys, x0.kids⟩) (rtxB ⟨x0.kind, x0.text, x0.keys, x0.kids⟩) 0 0 [] 0 [] [] [])
theorem q18set_e (G : Nat → ASt E → Option (List (TV E))) (x0 : Node) : runE q18set_O q18set_H G Tryz.f37 [⟨.api_Node, x0⟩] = q18set_t G x0 := by kernel_rfl
noncomputable def q18set_t0 (G : Nat → ASt E → Option (List (TV E))) (v0 : List (List UInt8)) (v1 : Bool) (v2 v3 : Int) (v4 : List UInt8) (v5 : List (List UInt8)) (v6 : List Node) (v7 : Int) (v8 : List UInt8) : Option (List (TV E)) :=
  bif (decide (v2 < (v6.length : Int))) then (bif (decide ((0 : Int) ≤ v2) && decide (v2 < (v6.length : Int))) then (bif ((decide ((0 : Int) ≤ v2) && decide (v2 < (v6.length : Int))) || !((List.getD v6 (Int.toNat v2) (dflt .api_Node)).kind != (0 : Int))) then (bif ((decide ((0 : Int) ≤ v2) && decide (v2 < (v6.length : Int))) || !(((List.getD v6 (Int.toNat v2) (dflt .api_Node)).kind != (0 : Int)) && (!((List.getD v6 (Int.toNat v2) (dflt .api_Node)).kind != (3 : Int))))) then (bif (bif ((List.getD v6 (Int.toNat v2) (dflt .api_Node)).kind != (0 : Int)) then (bif ((List.getD v6 (Int.toNat v2) (dflt .api_Node)).kind != (3 : Int)) then true else (decide ((0 : Int) < (((List.getD v6 (Int.toNat v2) (dflt .api_Node)).keys).length : Int)))) else false) then G 0 (q18set_C0 v0 false (w64 (v2 + (1 : Int))) v3 v4 v5 v6 v7 v8) else G 0 (q18set_C0 v0 v1 (w64 (v2 + (1 : Int))) v3 v4 v5 v6 v7 v8)) else none) else none) else none) else G 1 (q18set_C1 v0 v1 0 v7 v8 0 [] [] [])
theorem q18set_l0 (G : Nat → ASt E → Option (List (TV E))) (v0 : List (List UInt8)) (v1 : Bool) (v2 v3 : Int) (v4 : List UInt8) (v5 : List (List UInt8)) (v6 : List Node) (v7 : Int) (v8 : List UInt8) : runL q18set_O q18set_H G Tryz.f37 0 (q18set_C0 v0 v1 v2 v3 v4 v5 v6 v7 v8) = q18set_t0 G v0 v1 v2 v3 v4 v5 v6 v7 v8 := by kernel_rfl
noncomputable def q18set_t1 (G : Nat → ASt E → Option (List (TV E))) (v0 : List (List UInt8)) (v1 : Bool) (v2 v3 : Int) (v4 : List UInt8) (v5 : Int) (v6 : List UInt8) (v7 : List (List UInt8)) (v8 : List Node) : Option (List (TV E)) :=
  bif (bif (decide (v2 < (v0.length : Int))) then v1 else false) then (bif (decide ((0 : Int) ≤ v2) && decide (v2 < (v0.length : Int))) then (bif (decide ((0 : Int) ≤ v2) && decide (v2 < (v0.length : Int))) then (bif (okWi ⟨v5, v6, v7, v8⟩ (List.getD v0 (Int.toNat v2) (dflt .str)) ⟨0, [], [], []⟩) then G 1 (q18set_C1 v0 ((nameV badS) (List.getD v0 (Int.toNat v2) (dflt .str))) (w64 (v2 + (1 : Int))) v3 v4 ((withV ⟨v5, v6, v7, v8⟩ (List.getD v0 (Int.toNat v2) (dflt .str)) ⟨0, [], [], []⟩).kind) ((withV ⟨v5, v6, v7, v8⟩ (List.getD v0 (Int.toNat v2) (dflt .str)) ⟨0, [], [], []⟩).text) ((withV ⟨v5, v6, v7, v8⟩ (List.getD v0 (Int.toNat v2) (dflt .str)) ⟨0, [], [], []⟩).keys) ((withV ⟨v5, v6, v7, v8⟩ (List.getD v0 (Int.toNat v2) (dflt .str)) ⟨0, [], [], []⟩).kids)) else none) else none) else none) else (bif (okDn ⟨v5, v6, v7, v8⟩ v1) then some [⟨.api_Node, (⟨(doneV ⟨v5, v6, v7, v8⟩ v1).kind, (doneV ⟨v5, v6, v7, v8⟩ v1).text, (doneV ⟨v5, v6, v7, v8⟩ v1).keys, (doneV ⟨v5, v6, v7, v8⟩ v1).kids⟩ : Node)⟩, ⟨.bool, (doneB ⟨v5, v6, v7, v8⟩ v1)⟩] else none)
theorem q18set_l1 (G : Nat → ASt E → Option (List (TV E))) (v0 : List (List UInt8)) (v1 : Bool) (v2 v3 : Int) (v4 : List UInt8) (v5 : Int) (v6 : List UInt8) (v7 : List (List UInt8)) (v8 : List Node) : runL q18set_O q18set_H G Tryz.f37 1 (q18set_C1 v0 v1 v2 v3 v4 v5 v6 v7 v8) = q18set_t1 G v0 v1 v2 v3 v4 v5 v6 v7 v8 := by kernel_rfl
theorem q18set_f : Tryz.prog.funcs[37]? = some Tryz.f37 := by kernel_rfl
theorem q18set_n : (Tryz.f37.name == "runtime.NumGoroutine") = false := by kernel_rfl
theorem q18set_b : Tryz.f37.body.isNone = false := by kernel_rfl
theorem q18set_hO : OracleOk E q18set_O := orac_ok (.cons rservice_ok (.cons rwith_ok (.cons r18done_ok (.cons q18texts_ok .nil)))) .nil .nil .nil
theorem q18set_s0 {res : List (TV E)} {v0 : List (List UInt8)} {v1 : Bool} {v2 v3 : Int} {v4 : List UInt8} {v5 : List (List UInt8)} {v6 : List Node} {v7 : Int} {v8 : List UInt8} (h : q18set_t0 (Gr E Tryz.f37 res) v0 v1 v2 v3 v4 v5 v6 v7 v8 = some res) : Ev E Tryz.f37 res 0 (q18set_C0 v0 v1 v2 v3 v4 v5 v6 v7 v8) := Ev.step q18set_hO mix ((q18set_l0 _ v0 v1 v2 v3 v4 v5 v6 v7 v8).trans h)
theorem q18set_s1 {res : List (TV E)} {v0 : List (List UInt8)} {v1 : Bool} {v2 v3 : Int} {v4 : List UInt8} {v5 : Int} {v6 : List UInt8} {v7 : List (List UInt8)} {v8 : List Node} (h : q18set_t1 (Gr E Tryz.f37 res) v0 v1 v2 v3 v4 v5 v6 v7 v8 = some res) : Ev E Tryz.f37 res 1 (q18set_C1 v0 v1 v2 v3 v4 v5 v6 v7 v8) := Ev.step q18set_hO mix ((q18set_l1 _ v0 v1 v2 v3 v4 v5 v6 v7 v8).trans h)
theorem q18set_ok_of (h : ∀ (x0 : Node), okRs x0 = true → q18set_t (Gr E Tryz.f37 [⟨.api_Node, rsetV x0⟩, ⟨.bool, rsetB x0⟩]) x0 = some [⟨.api_Node, rsetV x0⟩, ⟨.bool, rsetB x0⟩]) : FnOk E q18set_id q18set_W := fn12_ok q18set_hO mix q18set_f q18set_n q18set_b (fun x0 hk => (q18set_e _ x0).trans (h x0 hk))
theorem q18set_1 (l : List (List UInt8)) (hl : l.length ≤ 1000) (u : Int) (t : List UInt8) : ∀ (m i : Nat) (b : Bool) (o : Node), l.length - i = m → i ≤ l.length → Bq leafK 1 i o →
    Ev E Tryz.f37 [⟨.api_Node, doneV (rs1 (nameV badS) (l.drop i) b o).1 (rs1 (nameV badS) (l.drop i) b o).2⟩, ⟨.bool, doneB (rs1 (nameV badS) (l.drop i) b o).1 (rs1 (nameV badS) (l.drop i) b o).2⟩] 1 (q18set_C1 l b i u t o.kind o.text o.keys o.kids) := by
  intro m
  induction m with
  | zero =>
    intro i b o h1 h2 h3
    refine q18set_s1 ?_
    simp only [q18set_t1, dge (show l.length ≤ i by omega), cond_false, node_eta, List.drop_eq_nil_of_le (show l.length ≤ i by omega), rs1, h3.done_ok (by decide) b, cond_true]
  | succ m ih =>
    intro i b o h1 h2 h3
    have hi : i < l.length := by omega
    have e1 : w64 ((i : Int) + 1) = ((i + 1 : Nat) : Int) := by rw [w64_id (by omega) (by omega)]; omega
    refine q18set_s1 ?_
    rw [← List.getElem_cons_drop hi]
    simp only [q18set_t1, dlt hi, d0, Bool.and_self, cond_true, gd l _ i hi, node_eta, h3.ok (by omega), e1, rs1]
    cases b with
    | false => simp only [cond_false, h3.done_ok (by decide) false, cond_true]
    | true => exact Gr_of (ih (i + 1) _ _ (by omega) (by omega) (h3.put (zn_leaf _) (zn_wg 0)))
theorem q18set_0 (n : Node) (hn : n.kids.length ≤ 1000) (l : List (List UInt8)) (hl : l.length ≤ 1000) (u3 : Int) (u4 : List UInt8) (ks : List (List UInt8)) (u : Int) (t : List UInt8) : ∀ (m i : Nat) (b : Bool), n.kids.length - i = m → i ≤ n.kids.length →
    Ev E Tryz.f37 [⟨.api_Node, doneV (rs1 (nameV badS) l (b && !((n.kids.drop i).any badKid)) zn).1 (rs1 (nameV badS) l (b && !((n.kids.drop i).any badKid)) zn).2⟩, ⟨.bool, doneB (rs1 (nameV badS) l (b && !((n.kids.drop i).any badKid)) zn).1 (rs1 (nameV badS) l (b && !((n.kids.drop i).any badKid)) zn).2⟩] 0 (q18set_C0 l b i u3 u4 ks n.kids u t) := by
  intro m
  induction m with
  | zero =>
    intro i b h1 h2
    refine q18set_s0 ?_
    simp only [q18set_t0, dge (show n.kids.length ≤ i by omega), cond_false, List.drop_eq_nil_of_le (show n.kids.length ≤ i by omega), List.any_nil, Bool.not_false, Bool.and_true]
    have := Gr_of (q18set_1 l hl u t _ 0 b ⟨0, [], [], []⟩ rfl (Nat.zero_le _) (Bq.nil (.inl rfl)))
    rw [List.drop_zero] at this
    exact this
  | succ m ih =>
    intro i b h1 h2
    have hi : i < n.kids.length := by omega
    have e1 : w64 ((i : Int) + 1) = ((i + 1 : Nat) : Int) := by rw [w64_id (by omega) (by omega)]; omega
    refine q18set_s0 ?_
    rw [← List.getElem_cons_drop hi]
    simp only [q18set_t0, dlt hi, d0, Bool.and_self, Bool.true_or, cond_true, gd n.kids _ i hi, e1, List.any_cons]
    change (bif badKid n.kids[i] then _ else _) = _
    cases hb : badKid n.kids[i] with
    | true =>
      have := Gr_of (ih (i + 1) false (by omega) (by omega))
      simp only [Bool.false_and] at this
      simp only [Bool.true_or, Bool.not_true, Bool.and_false, cond_true]
      exact this
    | false =>
      have := Gr_of (ih (i + 1) b (by omega) (by omega))
      simp only [Bool.false_or, cond_false]
      exact this
theorem q18set_ok : FnOk E q18set_id q18set_W := q18set_ok_of fun n hk => by
  simp only [okRs, Bool.and_eq_true, decide_eq_true_eq] at hk
  obtain ⟨h1, h2⟩ := hk
  simp only [q18set_t, node_eta]
  unfold rsetV rsetB rsP
  change (bif rs0 n then _ else _) = _
  cases rs0 n with
  | true =>
    have := Gr_of (q18set_0 n h2 n.keys h1 n.kind n.text n.keys 0 [] _ 0 true rfl (Nat.zero_le _))
    rw [List.drop_zero] at this
    simp only [Bool.true_and] at this
    exact this
  | false =>
    have := Gr_of (q18set_1 (rtxL n) (Nat.le_trans (rtxL_len n) h2) 0 [] _ 0 (rtxB n) ⟨0, [], [], []⟩ rfl (Nat.zero_le _) (Bq.nil (.inl rfl)))
    rw [List.drop_zero] at this
    exact this
end Go.Proofs.YtgniedpgdjmfpaaGreatDoor.Rf
