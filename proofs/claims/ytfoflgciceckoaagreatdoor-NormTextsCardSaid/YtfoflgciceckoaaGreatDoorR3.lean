/- Nodes: the program's (node, blend), and the reference's (08), by the Mirror. -/
import Derived.Test.YtfoflgciceckoaaGreatDoorR2
namespace Go.Proofs.YtfoflgciceckoaaGreatDoor.Rf
open Go Go.RowKit Go.Sort Go.Proofs.YtfoflgciceckoaaGreatDoor.Mir
/-! ### Package node -/
theorem node_eta (x : Node) : (⟨x.kind, x.text, x.keys, x.kids⟩ : Node) = x := by cases x; rfl
def zn : Node := ⟨0, [], [], []⟩
def lk : List (List UInt8) → List Node → List UInt8 → Option Node
  | a :: t, v :: w, k => if k = a then some v else lk t w k
  | _, _, _ => none
def get (n : Node) (k : List UInt8) : Option Node := if n.kind = 3 then lk n.keys n.kids k else none
def getV (n : Node) (k : List UInt8) : Node := (get n k).getD zn
def getB (n : Node) (k : List UInt8) : Bool := (get n k).isSome
/-- A map's rows fit. -/
def fit (n : Node) : Bool := decide (n.keys.length ≤ 1000000) && decide (n.kids.length ≤ 1000000) && (n.kind != 3 || decide (n.keys.length = n.kids.length))
theorem fit_iff {n : Node} : fit n = true ↔ (n.keys.length ≤ 1000000 ∧ n.kids.length ≤ 1000000) ∧ (n.kind = 3 → n.keys.length = n.kids.length) := by
  simp only [fit, Bool.and_eq_true, Bool.or_eq_true, decide_eq_true_eq, bne_iff_ne]
  constructor
  · rintro ⟨h, h2⟩
    exact ⟨h, fun e => h2.resolve_left (fun h => h e)⟩
  · rintro ⟨h, h2⟩
    refine ⟨h, ?_⟩
    by_cases e : n.kind = 3
    · exact .inr (h2 e)
    · exact .inl e
def place (n : Node) (k : List UInt8) : Int := if n.kind = 3 then index n.keys k else -1
noncomputable def nplace_W : FnW E := fn2 (E := E) .api_Node .str .int (fun n _ => fit n) place
def nplace_id : FuncId := 112
noncomputable def nplace_O : Oracle E := orac [(156, nat_W)] [] [] []
noncomputable def nplace_H : Hint E := Hint.mk [] [] [] [] []
noncomputable def nplace_t (_G : Nat → ASt E → Option (List (TV E))) (x0 : Node) (x1 : List UInt8) : Option (List (TV E)) :=
  bif (bif (x0.kind != (3 : Int)) then true else ((x0.keys.length : Int) != (x0.kids.length : Int))) then some [⟨.int, (-1 : Int)⟩] else (bif ((fun l _ => ln6 l) x0.keys x1) then some [⟨.int, (index x0.keys x1)⟩] else none)
theorem nplace_e (G : Nat → ASt E → Option (List (TV E))) (x0 : Node) (x1 : List UInt8) : runE nplace_O nplace_H G Tryz.f112 [⟨.api_Node, x0⟩, ⟨.str, x1⟩] = nplace_t G x0 x1 := by kernel_rfl
theorem nplace_f : Tryz.prog.funcs[112]? = some Tryz.f112 := by kernel_rfl
theorem nplace_n : (Tryz.f112.name == "runtime.NumGoroutine") = false := by kernel_rfl
theorem nplace_b : Tryz.f112.body.isNone = false := by kernel_rfl
theorem nplace_ex : ∃ fn, Tryz.prog.funcs[112]? = some fn ∧ (fn.name == "runtime.NumGoroutine") = false ∧ fn.body.isNone = false := ⟨Tryz.f112, nplace_f, nplace_n, nplace_b⟩
theorem nplace_hO : OracleOk E nplace_O := orac_ok (.cons nat_ok .nil) .nil .nil .nil
theorem nplace_ok_of (h : ∀ (x0 : Node) (x1 : List UInt8), (fun n _ => fit n) x0 x1 = true → nplace_t (Gr E Tryz.f112 [⟨.int, place x0 x1⟩]) x0 x1 = some [⟨.int, place x0 x1⟩]) : FnOk E nplace_id nplace_W := fn2_ok nplace_hO mix nplace_f nplace_n nplace_b (fun x0 x1 hk => (nplace_e _ x0 x1).trans (h x0 x1 hk))
theorem nplace_ok : FnOk E nplace_id nplace_W := nplace_ok_of fun n k hk => by
  have hf := fit_iff.1 hk
  have h1 : ln6 n.keys = true := ln6_iff.2 hf.1.1
  unfold place
  by_cases h : n.kind = 3
  · rw [if_pos h]
    simp only [nplace_t, h1, cond_true, neF h, cond_false]
    rw [neF (by have := hf.2 h; omega), cond_false]
  · rw [if_neg h]
    simp only [nplace_t, neT h, cond_true]
theorem idx_lk : ∀ (keys : List (List UInt8)) (kids : List Node) (k : List UInt8) (i : Nat), keys.length = kids.length →
    (idxF k i keys = -1 ∧ lk keys kids k = none) ∨ ∃ (j : Nat) (h : j < kids.length), idxF k i keys = ((i + j : Nat) : Int) ∧ lk keys kids k = some kids[j]
  | [], [], k, i, _ => .inl ⟨rfl, rfl⟩
  | a :: t, v :: w, k, i, h => by
    unfold idxF lk
    by_cases e : k = a
    · rw [if_pos e, if_pos e]
      exact .inr ⟨0, by simp, by simp, rfl⟩
    · rw [if_neg e, if_neg e]
      rcases idx_lk t w k (i + 1) (by simpa using h) with h1 | ⟨j, hj, h1, h2⟩
      · exact .inl h1
      · exact .inr ⟨j + 1, by simpa using hj, by rw [h1]; omega, by simpa using h2⟩
  | [], _ :: _, _, _, h => by simp at h
  | _ :: _, [], _, _, h => by simp at h
noncomputable def nget_W : FnW E := fn22 (E := E) .api_Node .str .api_Node .bool (fun n _ => fit n) getV getB
def nget_id : FuncId := 71
noncomputable def nget_O : Oracle E := orac [(112, nplace_W)] [] [] []
noncomputable def nget_H : Hint E := Hint.mk [] [] [] [] []
noncomputable def nget_t (_G : Nat → ASt E → Option (List (TV E))) (x0 : Node) (x1 : List UInt8) : Option (List (TV E)) :=
  bif ((fun n _ => fit n) (⟨x0.kind, x0.text, x0.keys, x0.kids⟩ : Node) x1) then (bif (decide ((place (⟨x0.kind, x0.text, x0.keys, x0.kids⟩ : Node) x1) < (0 : Int))) then some [⟨.api_Node, (⟨(0 : Int), ([] : List UInt8), ([] : List (List UInt8)), ([] : List Node)⟩ : Node)⟩, ⟨.bool, false⟩] else (bif (decide ((0 : Int) ≤ (place (⟨x0.kind, x0.text, x0.keys, x0.kids⟩ : Node) x1)) && decide ((place (⟨x0.kind, x0.text, x0.keys, x0.kids⟩ : Node) x1) < (x0.kids.length : Int))) then some [⟨.api_Node, (⟨(List.getD x0.kids (Int.toNat (place (⟨x0.kind, x0.text, x0.keys, x0.kids⟩ : Node) x1)) (dflt .api_Node)).kind, (List.getD x0.kids (Int.toNat (place (⟨x0.kind, x0.text, x0.keys, x0.kids⟩ : Node) x1)) (dflt .api_Node)).text, (List.getD x0.kids (Int.toNat (place (⟨x0.kind, x0.text, x0.keys, x0.kids⟩ : Node) x1)) (dflt .api_Node)).keys, (List.getD x0.kids (Int.toNat (place (⟨x0.kind, x0.text, x0.keys, x0.kids⟩ : Node) x1)) (dflt .api_Node)).kids⟩ : Node)⟩, ⟨.bool, true⟩] else none)) else none
theorem nget_e (G : Nat → ASt E → Option (List (TV E))) (x0 : Node) (x1 : List UInt8) : runE nget_O nget_H G Tryz.f71 [⟨.api_Node, x0⟩, ⟨.str, x1⟩] = nget_t G x0 x1 := by kernel_rfl
theorem nget_f : Tryz.prog.funcs[71]? = some Tryz.f71 := by kernel_rfl
theorem nget_n : (Tryz.f71.name == "runtime.NumGoroutine") = false := by kernel_rfl
theorem nget_b : Tryz.f71.body.isNone = false := by kernel_rfl
theorem nget_ex : ∃ fn, Tryz.prog.funcs[71]? = some fn ∧ (fn.name == "runtime.NumGoroutine") = false ∧ fn.body.isNone = false := ⟨Tryz.f71, nget_f, nget_n, nget_b⟩
theorem nget_hO : OracleOk E nget_O := orac_ok (.cons nplace_ok .nil) .nil .nil .nil
theorem nget_ok_of (h : ∀ (x0 : Node) (x1 : List UInt8), (fun n _ => fit n) x0 x1 = true → nget_t (Gr E Tryz.f71 [⟨.api_Node, getV x0 x1⟩, ⟨.bool, getB x0 x1⟩]) x0 x1 = some [⟨.api_Node, getV x0 x1⟩, ⟨.bool, getB x0 x1⟩]) : FnOk E nget_id nget_W := fn22_ok nget_hO mix nget_f nget_n nget_b (fun x0 x1 hk => (nget_e _ x0 x1).trans (h x0 x1 hk))
theorem nget_ok : FnOk E nget_id nget_W := nget_ok_of fun n k hk => by
  have hf := fit_iff.1 hk
  simp only [nget_t, node_eta, hk, cond_true]
  by_cases h : n.kind = 3
  · have hp : place n k = idxF k 0 n.keys := by unfold place index; rw [if_pos h]
    have hg : get n k = lk n.keys n.kids k := if_pos h
    unfold getV getB
    rw [hg, hp]
    rcases idx_lk n.keys n.kids k 0 (hf.2 h) with ⟨h1, h2⟩ | ⟨j, hj, h1, h2⟩
    · rw [h1, h2]; rfl
    · rw [h1, h2, Nat.zero_add, dF (by omega), cond_false, d0, dlt hj, Bool.and_self, cond_true, gd n.kids _ j hj]
      rfl
  · have hp : place n k = -1 := by unfold place; rw [if_neg h]
    have hg : get n k = none := if_neg h
    unfold getV getB
    rw [hg, hp]
    rfl
def sameW (f : Node → Node → Bool) : List Node → List Node → Bool
  | [], [] => true
  | a :: s, b :: t => f a b && sameW f s t
  | _, _ => false
def same : Nat → Node → Node → Bool
  | 0, _, _ => false
  | n + 1, a, b => a.kind == b.kind && (a.text == b.text && (a.keys == b.keys && sameW (same n) a.kids b.kids))
/-- Depth at most n, rows of at most 1000000. -/
def dp : Nat → Node → Bool
  | 0, _ => false
  | n + 1, x => decide (x.keys.length ≤ 1000000) && decide (x.kids.length ≤ 1000000) && x.kids.all (dp n)
theorem dp_iff {n : Nat} {x : Node} : dp (n + 1) x = true ↔ (x.keys.length ≤ 1000000 ∧ x.kids.length ≤ 1000000) ∧ ∀ y ∈ x.kids, dp n y = true := by
  simp only [dp, Bool.and_eq_true, decide_eq_true_eq, List.all_eq_true]
def okS (n : Nat) (a b : Node) : Bool := dp n a && dp n b
theorem sameW_len {f : Node → Node → Bool} : ∀ {a b : List Node}, a.length ≠ b.length → sameW f a b = false
  | [], [], h => absurd rfl h
  | a :: s, b :: t, h => by
    unfold sameW
    rw [sameW_len (a := s) (b := t) (by simpa using h), Bool.and_false]
  | [], _ :: _, _ => rfl
  | _ :: _, [], _ => rfl
/-! ### Package blend -/
/-- Nodes of depth at most n: rows of at most B, texts of at most 200 bytes, maps whose rows fit. -/
def wf (B : Nat) : Nat → Node → Bool
  | 0, _ => false
  | n + 1, x => decide (x.keys.length ≤ B) && decide (x.kids.length ≤ B) && (x.kind != 3 || decide (x.keys.length = x.kids.length)) && decide (x.text.length ≤ 200) && x.keys.all (fun k => decide (k.length ≤ 200)) && x.kids.all (wf B n)
theorem wf_iff {B n : Nat} {x : Node} : wf B (n + 1) x = true ↔ x.keys.length ≤ B ∧ x.kids.length ≤ B ∧ (x.kind = 3 → x.keys.length = x.kids.length) ∧ x.text.length ≤ 200 ∧ (∀ k ∈ x.keys, k.length ≤ 200) ∧ ∀ y ∈ x.kids, wf B n y = true := by
  simp only [wf, Bool.and_eq_true, Bool.or_eq_true, decide_eq_true_eq, bne_iff_ne, List.all_eq_true]
  constructor
  · rintro ⟨⟨⟨⟨⟨h1, h2⟩, h3⟩, h4⟩, h5⟩, h6⟩
    exact ⟨h1, h2, fun e => h3.resolve_left (fun h => h e), h4, h5, h6⟩
  · rintro ⟨h1, h2, h3, h4, h5, h6⟩
    refine ⟨⟨⟨⟨⟨h1, h2⟩, ?_⟩, h4⟩, h5⟩, h6⟩
    by_cases e : x.kind = 3
    · exact .inr (h3 e)
    · exact .inl e
theorem wf_fit {B n : Nat} {x : Node} (h : wf B (n + 1) x = true) (hB : B ≤ 1000) : fit x = true := by
  have := wf_iff.1 h
  exact fit_iff.2 ⟨⟨by omega, by omega⟩, this.2.2.1⟩
theorem wf_dp {B : Nat} (hB : B ≤ 1000) : ∀ {n : Nat} {x : Node}, wf B n x = true → dp n x = true
  | 0, _, h => by cases h
  | n + 1, x, h => by
    have := wf_iff.1 h
    exact dp_iff.2 ⟨⟨by omega, by omega⟩, fun y hy => wf_dp hB (this.2.2.2.2.2 y hy)⟩
theorem dp_mono : ∀ {n : Nat} {x : Node} (k : Nat), dp n x = true → dp (n + k) x = true
  | 0, _, _, h => by cases h
  | n + 1, x, k, h => by
    have := dp_iff.1 h
    rw [Nat.add_right_comm]
    exact dp_iff.2 ⟨this.1, fun y hy => dp_mono k (this.2 y hy)⟩
theorem wf_dp12 {B n : Nat} {x : Node} (hB : B ≤ 1000) (hn : n ≤ 12) (h : wf B n x = true) : dp 12 x = true := by
  have := dp_mono (12 - n) (wf_dp hB h)
  rwa [show n + (12 - n) = 12 from by omega] at this
/-- Nodes of depth at most n: rows of at most B, maps whose rows fit. -/
def wg (B : Nat) : Nat → Node → Bool
  | 0, _ => false
  | n + 1, x => decide (x.keys.length ≤ B) && decide (x.kids.length ≤ B) && (x.kind != 3 || decide (x.keys.length = x.kids.length)) && x.kids.all (wg B n)
theorem wg_iff {B n : Nat} {x : Node} : wg B (n + 1) x = true ↔ x.keys.length ≤ B ∧ x.kids.length ≤ B ∧ (x.kind = 3 → x.keys.length = x.kids.length) ∧ ∀ y ∈ x.kids, wg B n y = true := by
  simp only [wg, Bool.and_eq_true, Bool.or_eq_true, decide_eq_true_eq, bne_iff_ne, List.all_eq_true]
  constructor
  · rintro ⟨⟨⟨h1, h2⟩, h3⟩, h6⟩
    exact ⟨h1, h2, fun e => h3.resolve_left (fun h => h e), h6⟩
  · rintro ⟨h1, h2, h3, h6⟩
    refine ⟨⟨⟨h1, h2⟩, ?_⟩, h6⟩
    by_cases e : x.kind = 3
    · exact .inr (h3 e)
    · exact .inl e
theorem wg_fit {B n : Nat} {x : Node} (h : wg B (n + 1) x = true) (hB : B ≤ 1000000) : fit x = true := by
  have := wg_iff.1 h
  exact fit_iff.2 ⟨⟨by omega, by omega⟩, this.2.2.1⟩
theorem wg_dp {B : Nat} (hB : B ≤ 1000000) : ∀ {n : Nat} {x : Node}, wg B n x = true → dp n x = true
  | 0, _, h => by cases h
  | n + 1, x, h => by
    have := wg_iff.1 h
    exact dp_iff.2 ⟨⟨by omega, by omega⟩, fun y hy => wg_dp hB (this.2.2.2 y hy)⟩
theorem wg_up {B C : Nat} (hB : B ≤ C) : ∀ {n : Nat} {x : Node}, wg B n x = true → wg C n x = true
  | 0, _, h => by cases h
  | n + 1, x, h => by
    have := wg_iff.1 h
    exact wg_iff.2 ⟨by omega, by omega, this.2.2.1, fun y hy => wg_up hB (this.2.2.2 y hy)⟩
theorem wg_deep {B : Nat} : ∀ {n : Nat} {x : Node} (k : Nat), wg B n x = true → wg B (n + k) x = true
  | 0, _, _, h => by cases h
  | n + 1, x, k, h => by
    have := wg_iff.1 h
    rw [Nat.add_right_comm]
    exact wg_iff.2 ⟨this.1, this.2.1, this.2.2.1, fun y hy => wg_deep k (this.2.2.2 y hy)⟩
theorem wf_wg {B : Nat} : ∀ {n : Nat} {x : Node}, wf B n x = true → wg B n x = true
  | 0, _, h => by cases h
  | n + 1, x, h => by
    have := wf_iff.1 h
    exact wg_iff.2 ⟨this.1, this.2.1, this.2.2.1, fun y hy => wf_wg (this.2.2.2.2.2 y hy)⟩
theorem lk_mem : ∀ {keys : List (List UInt8)} {kids : List Node} {k : List UInt8} {x : Node}, lk keys kids k = some x → x ∈ kids
  | a :: t, v :: w, k, x, h => by
    unfold lk at h
    split at h
    · cases h; exact List.mem_cons_self
    · exact List.mem_cons_of_mem _ (lk_mem h)
  | [], _, _, _, h => by cases h
  | _ :: _, [], _, _, h => by cases h
theorem lk_some : ∀ {keys : List (List UInt8)} {kids : List Node} {k : List UInt8}, keys.length = kids.length → k ∈ keys → ∃ x, lk keys kids k = some x
  | a :: t, v :: w, k, hl, h => by
    unfold lk
    by_cases e : k = a
    · exact ⟨v, if_pos e⟩
    · rw [if_neg e]
      exact lk_some (by simpa using hl) ((List.mem_cons.1 h).resolve_left e)
  | [], _, _, _, h => by cases h
  | _ :: _, [], _, hl, _ => by simp at hl
theorem getV_mem {a : Node} {k : List UInt8} (h : getB a k = true) : getV a k ∈ a.kids := by
  unfold getB at h
  unfold getV
  cases hg : get a k with
  | none => rw [hg] at h; cases h
  | some x =>
    unfold get at hg
    split at hg
    · exact lk_mem hg
    · cases hg
theorem getB_of {B n : Nat} {a : Node} {k : List UInt8} (ha : wf B (n + 1) a = true) (h3 : a.kind = 3) (hk : k ∈ a.keys) : getB a k = true := by
  obtain ⟨x, hx⟩ := lk_some ((wf_iff.1 ha).2.2.1 h3) hk
  unfold getB get
  rw [if_pos h3, hx]
  rfl
theorem wf_get {B n : Nat} {a : Node} {k : List UInt8} (ha : wf B (n + 1) a = true) (h : getB a k = true) : wf B n (getV a k) = true := (wf_iff.1 ha).2.2.2.2.2 _ (getV_mem h)
theorem getB_g {B n : Nat} {a : Node} {k : List UInt8} (ha : wg B (n + 1) a = true) (h3 : a.kind = 3) (hk : k ∈ a.keys) : getB a k = true := by
  obtain ⟨x, hx⟩ := lk_some ((wg_iff.1 ha).2.2.1 h3) hk
  unfold getB get
  rw [if_pos h3, hx]
  rfl
theorem wg_get {B n : Nat} {a : Node} {k : List UInt8} (ha : wg B (n + 1) a = true) (h : getB a k = true) : wg B n (getV a k) = true := (wg_iff.1 ha).2.2.2 _ (getV_mem h)
def pairsV (a b : Node) : Bool := a.kind == 3 && b.kind == 3
theorem pairsV_iff {a b : Node} : pairsV a b = true ↔ a.kind = 3 ∧ b.kind = 3 := by simp [pairsV]
def ext : List UInt8 := [101, 120, 116, 101, 110, 100, 115]
def pick (f : Node → Node → Node) (a b : Node) (k : List UInt8) : Node := bif getB b k then (bif getB a k && !(k == ext) then f (getV a k) (getV b k) else getV b k) else getV a k
def twoV : Nat → Node → Node → Node
  | 0, _, b => b
  | n + 1, a, b => bif pairsV a b then ⟨3, [], both a.keys b.keys, (both a.keys b.keys).map (pick (twoV n) a b)⟩ else b
def okT (n : Nat) (a b : Node) : Bool := wg 10000 n a && wg 10000 n b
theorem both_len (a b : List (List UInt8)) : (both a b).length ≤ a.length + b.length := by
  have := Pl.sortD_len (a ++ b)
  rw [List.length_append] at this
  exact this
/-! ### The reference's nodes (08) -/
noncomputable def rget_W : FnW E := fn22 (E := E) .api_Node .str .api_Node .bool (fun n _ => fit n) getV getB
def rget_id : FuncId := 102
noncomputable def rget_O : Oracle E := orac [] [] [] []
noncomputable def rget_H : Hint E := Hint.mk [(0, [1, 2, 4, 6])] [] [] [] []
noncomputable def rget_C0 (v0 : List UInt8) (v1 v2 : Int) (v3 : List UInt8) (v4 : List (List UInt8)) (v5 : List Node) (v6 : Int) (v7 : List UInt8) : ASt E := ASt.mk 30 [(1, .d (.str v0)), (2, .ptr 0 0), (4, .ptr 1 0), (6, .d (.int .i64 v1))] [(0, .box [.d (.int .i64 v2), .d (.str v3), .d (.slice .str v4), .d (.slice .api_Node v5)]), (1, .box [.d (.int .i64 v6), .d (.str v7), .d (.raw (.slice none 0 0)), .d (.raw (.slice none 0 0))])] 2
noncomputable def rget_t (G : Nat → ASt E → Option (List (TV E))) (x0 : Node) (x1 : List UInt8) : Option (List (TV E)) :=
  bif (x0.kind == (3 : Int)) then G 0 (rget_C0 x1 (0 : Int) x0.kind x0.text x0.keys x0.kids (0 : Int) ([] : List UInt8)) else some [⟨.api_Node, (⟨(0 : Int), ([] : List UInt8), ([] : List (List UInt8)), ([] : List Node)⟩ : Node)⟩, ⟨.bool, false⟩]
theorem rget_e (G : Nat → ASt E → Option (List (TV E))) (x0 : Node) (x1 : List UInt8) : runE rget_O rget_H G Tryz.f102 [⟨.api_Node, x0⟩, ⟨.str, x1⟩] = rget_t G x0 x1 := by kernel_rfl
noncomputable def rget_t0 (G : Nat → ASt E → Option (List (TV E))) (v0 : List UInt8) (v1 v2 : Int) (v3 : List UInt8) (v4 : List (List UInt8)) (v5 : List Node) (v6 : Int) (v7 : List UInt8) : Option (List (TV E)) :=
  bif (decide (v1 < (v4.length : Int))) then (bif (decide ((0 : Int) ≤ v1) && decide (v1 < (v4.length : Int))) then (bif ((List.getD v4 (Int.toNat v1) (dflt .str)) == v0) then (bif (decide ((0 : Int) ≤ v1) && decide (v1 < (v5.length : Int))) then some [⟨.api_Node, (⟨(List.getD v5 (Int.toNat v1) (dflt .api_Node)).kind, (List.getD v5 (Int.toNat v1) (dflt .api_Node)).text, (List.getD v5 (Int.toNat v1) (dflt .api_Node)).keys, (List.getD v5 (Int.toNat v1) (dflt .api_Node)).kids⟩ : Node)⟩, ⟨.bool, true⟩] else none) else G 0 (rget_C0 v0 (w64 (v1 + (1 : Int))) v2 v3 v4 v5 v6 v7)) else none) else some [⟨.api_Node, (⟨(0 : Int), ([] : List UInt8), ([] : List (List UInt8)), ([] : List Node)⟩ : Node)⟩, ⟨.bool, false⟩]
theorem rget_l0 (G : Nat → ASt E → Option (List (TV E))) (v0 : List UInt8) (v1 v2 : Int) (v3 : List UInt8) (v4 : List (List UInt8)) (v5 : List Node) (v6 : Int) (v7 : List UInt8) : runL rget_O rget_H G Tryz.f102 0 (rget_C0 v0 v1 v2 v3 v4 v5 v6 v7) = rget_t0 G v0 v1 v2 v3 v4 v5 v6 v7 := by kernel_rfl
theorem rget_f : Tryz.prog.funcs[102]? = some Tryz.f102 := by kernel_rfl
theorem rget_n : (Tryz.f102.name == "runtime.NumGoroutine") = false := by kernel_rfl
theorem rget_b : Tryz.f102.body.isNone = false := by kernel_rfl
theorem rget_ex : ∃ fn, Tryz.prog.funcs[102]? = some fn ∧ (fn.name == "runtime.NumGoroutine") = false ∧ fn.body.isNone = false := ⟨Tryz.f102, rget_f, rget_n, rget_b⟩
theorem rget_hO : OracleOk E rget_O := orac_ok .nil .nil .nil .nil
theorem rget_s0 {res : List (TV E)} {v0 : List UInt8} {v1 v2 : Int} {v3 : List UInt8} {v4 : List (List UInt8)} {v5 : List Node} {v6 : Int} {v7 : List UInt8} (h : rget_t0 (Gr E Tryz.f102 res) v0 v1 v2 v3 v4 v5 v6 v7 = some res) : Ev E Tryz.f102 res 0 (rget_C0 v0 v1 v2 v3 v4 v5 v6 v7) := Ev.step rget_hO mix ((rget_l0 _ v0 v1 v2 v3 v4 v5 v6 v7).trans h)
theorem rget_ok_of (h : ∀ (x0 : Node) (x1 : List UInt8), (fun n _ => fit n) x0 x1 = true → rget_t (Gr E Tryz.f102 [⟨.api_Node, getV x0 x1⟩, ⟨.bool, getB x0 x1⟩]) x0 x1 = some [⟨.api_Node, getV x0 x1⟩, ⟨.bool, getB x0 x1⟩]) : FnOk E rget_id rget_W := fn22_ok rget_hO mix rget_f rget_n rget_b (fun x0 x1 hk => (rget_e _ x0 x1).trans (h x0 x1 hk))
theorem lk_drop (keys : List (List UInt8)) (kids : List Node) (k : List UInt8) (hl : keys.length = kids.length) (i : Nat) (hi : i < keys.length) : lk (keys.drop i) (kids.drop i) k = if k = keys[i] then some (kids[i]'(by omega)) else lk (keys.drop (i + 1)) (kids.drop (i + 1)) k := by
  rw [← List.getElem_cons_drop hi, ← List.getElem_cons_drop (show i < kids.length by omega)]
  rfl
theorem rget_loop (n : Node) (k : List UInt8) (hl : n.keys.length = n.kids.length) (hb : n.keys.length ≤ 1000000) (u0 : Int) (u1 : List UInt8) : ∀ (m i : Nat), n.keys.length - i = m → i ≤ n.keys.length →
    Ev E Tryz.f102 [⟨.api_Node, (lk (n.keys.drop i) (n.kids.drop i) k).getD zn⟩, ⟨.bool, (lk (n.keys.drop i) (n.kids.drop i) k).isSome⟩] 0 (rget_C0 k i n.kind n.text n.keys n.kids u0 u1) := by
  intro m
  induction m with
  | zero =>
    intro i h1 h2
    refine rget_s0 ?_
    simp only [rget_t0, dge (show n.keys.length ≤ i by omega), cond_false, List.drop_eq_nil_of_le (show n.keys.length ≤ i by omega)]
    rfl
  | succ m ih =>
    intro i h1 h2
    have hi : i < n.keys.length := by omega
    have hj : i < n.kids.length := by omega
    refine rget_s0 ?_
    simp only [rget_t0, dlt hi, dlt hj, d0, gd n.keys _ i hi, gd n.kids _ i hj, Bool.and_self, cond_true, node_eta]
    rw [lk_drop n.keys n.kids k hl i hi]
    by_cases e : k = n.keys[i]
    · rw [if_pos e, show (n.keys[i] == k) = true from by simp [e]]
      rfl
    · rw [if_neg e, show (n.keys[i] == k) = false from by simpa using fun h => e h.symm, cond_false, w64_id (by omega) (by omega)]
      exact Gr_of (ih (i + 1) (by omega) (by omega))
theorem rget_ok : FnOk E rget_id rget_W := rget_ok_of fun n k hk => by
  have hf := fit_iff.1 hk
  unfold getV getB get
  by_cases h : n.kind = 3
  · simp only [rget_t, eqT h, cond_true, if_pos h]
    have := Gr_of (rget_loop n k (hf.2 h) hf.1.1 0 [] n.keys.length 0 (by omega) (by omega))
    rw [List.drop_zero, List.drop_zero] at this
    exact this
  · simp only [rget_t, eqF h, cond_false, if_neg h]
    rfl
noncomputable def rnsame_W (n : Nat) : FnW E := fn2 (E := E) .api_Node .api_Node .bool (okS n) (same n)
def rnsame_id : FuncId := 12
noncomputable def rnsame_O (n : Nat) : Oracle E := orac [(43, rsame_W), (12, rnsame_W n)] [] [] []
noncomputable def rnsame_H : Hint E := Hint.mk [(0, [2, 3, 5])] [] [] [] []
noncomputable def rnsame_C0 (v0 v1 : Int) (v2 : List UInt8) (v3 : List (List UInt8)) (v4 : List Node) (v5 : Int) (v6 : List UInt8) (v7 : List (List UInt8)) (v8 : List Node) : ASt E := ASt.mk 54 [(2, .ptr 0 0), (3, .ptr 1 0), (5, .d (.int .i64 v0))] [(0, .box [.d (.int .i64 v1), .d (.str v2), .d (.slice .str v3), .d (.slice .api_Node v4)]), (1, .box [.d (.int .i64 v5), .d (.str v6), .d (.slice .str v7), .d (.slice .api_Node v8)])] 2
noncomputable def rnsame_t (_n : Nat) (G : Nat → ASt E → Option (List (TV E))) (x0 x1 : Node) : Option (List (TV E)) :=
  bif (((fun a _ => ln6 a) x0.keys x1.keys) || !(!(bif (x0.kind != x1.kind) then true else (!(x0.text == x1.text))))) then (bif (bif (bif (bif (x0.kind != x1.kind) then true else (!(x0.text == x1.text))) then true else (!(equal x0.keys x1.keys))) then true else ((x0.kids.length : Int) != (x1.kids.length : Int))) then some [⟨.bool, false⟩] else G 0 (rnsame_C0 (0 : Int) x0.kind x0.text x0.keys x0.kids x1.kind x1.text x1.keys x1.kids)) else none
theorem rnsame_e (n : Nat) (G : Nat → ASt E → Option (List (TV E))) (x0 : Node) (x1 : Node) : runE (rnsame_O n) rnsame_H G Tryz.f12 [⟨.api_Node, x0⟩, ⟨.api_Node, x1⟩] = rnsame_t n G x0 x1 := by kernel_rfl
noncomputable def rnsame_t0 (n : Nat) (G : Nat → ASt E → Option (List (TV E))) (v0 v1 : Int) (v2 : List UInt8) (v3 : List (List UInt8)) (v4 : List Node) (v5 : Int) (v6 : List UInt8) (v7 : List (List UInt8)) (v8 : List Node) : Option (List (TV E)) :=
  bif (decide (v0 < (v4.length : Int))) then (bif (decide ((0 : Int) ≤ v0) && decide (v0 < (v4.length : Int))) then (bif (decide ((0 : Int) ≤ v0) && decide (v0 < (v8.length : Int))) then (bif ((okS n) (⟨(List.getD v4 (Int.toNat v0) (dflt .api_Node)).kind, (List.getD v4 (Int.toNat v0) (dflt .api_Node)).text, (List.getD v4 (Int.toNat v0) (dflt .api_Node)).keys, (List.getD v4 (Int.toNat v0) (dflt .api_Node)).kids⟩ : Node) (⟨(List.getD v8 (Int.toNat v0) (dflt .api_Node)).kind, (List.getD v8 (Int.toNat v0) (dflt .api_Node)).text, (List.getD v8 (Int.toNat v0) (dflt .api_Node)).keys, (List.getD v8 (Int.toNat v0) (dflt .api_Node)).kids⟩ : Node)) then (bif (!((same n) (⟨(List.getD v4 (Int.toNat v0) (dflt .api_Node)).kind, (List.getD v4 (Int.toNat v0) (dflt .api_Node)).text, (List.getD v4 (Int.toNat v0) (dflt .api_Node)).keys, (List.getD v4 (Int.toNat v0) (dflt .api_Node)).kids⟩ : Node) (⟨(List.getD v8 (Int.toNat v0) (dflt .api_Node)).kind, (List.getD v8 (Int.toNat v0) (dflt .api_Node)).text, (List.getD v8 (Int.toNat v0) (dflt .api_Node)).keys, (List.getD v8 (Int.toNat v0) (dflt .api_Node)).kids⟩ : Node))) then some [⟨.bool, false⟩] else G 0 (rnsame_C0 (w64 (v0 + (1 : Int))) v1 v2 v3 v4 v5 v6 v7 v8)) else none) else none) else none) else some [⟨.bool, true⟩]
theorem rnsame_l0 (n : Nat) (G : Nat → ASt E → Option (List (TV E))) (v0 v1 : Int) (v2 : List UInt8) (v3 : List (List UInt8)) (v4 : List Node) (v5 : Int) (v6 : List UInt8) (v7 : List (List UInt8)) (v8 : List Node) : runL (rnsame_O n) rnsame_H G Tryz.f12 0 (rnsame_C0 v0 v1 v2 v3 v4 v5 v6 v7 v8) = rnsame_t0 n G v0 v1 v2 v3 v4 v5 v6 v7 v8 := by kernel_rfl
theorem rnsame_f : Tryz.prog.funcs[12]? = some Tryz.f12 := by kernel_rfl
theorem rnsame_n : (Tryz.f12.name == "runtime.NumGoroutine") = false := by kernel_rfl
theorem rnsame_b : Tryz.f12.body.isNone = false := by kernel_rfl
theorem rnsame_ex : ∃ fn, Tryz.prog.funcs[12]? = some fn ∧ (fn.name == "runtime.NumGoroutine") = false ∧ fn.body.isNone = false := ⟨Tryz.f12, rnsame_f, rnsame_n, rnsame_b⟩
theorem rnsame_hO (n : Nat) (ih : FnOk E rnsame_id (rnsame_W n)) : OracleOk E (rnsame_O n) := orac_ok (.cons rsame_ok (.cons ih .nil)) .nil .nil .nil
theorem rnsame_s0 (n : Nat) (ih : FnOk E rnsame_id (rnsame_W n)) {res : List (TV E)} {v0 v1 : Int} {v2 : List UInt8} {v3 : List (List UInt8)} {v4 : List Node} {v5 : Int} {v6 : List UInt8} {v7 : List (List UInt8)} {v8 : List Node} (h : rnsame_t0 n (Gr E Tryz.f12 res) v0 v1 v2 v3 v4 v5 v6 v7 v8 = some res) : Ev E Tryz.f12 res 0 (rnsame_C0 v0 v1 v2 v3 v4 v5 v6 v7 v8) := Ev.step (rnsame_hO n ih) mix ((rnsame_l0 n _ v0 v1 v2 v3 v4 v5 v6 v7 v8).trans h)
theorem rnsame_ok_of (n : Nat) (ih : FnOk E rnsame_id (rnsame_W n)) (h : ∀ (x0 : Node) (x1 : Node), (okS (n + 1)) x0 x1 = true → rnsame_t n (Gr E Tryz.f12 [⟨.bool, (same (n + 1)) x0 x1⟩]) x0 x1 = some [⟨.bool, (same (n + 1)) x0 x1⟩]) : FnOk E rnsame_id (rnsame_W (n + 1)) := fn2_ok (rnsame_hO n ih) mix rnsame_f rnsame_n rnsame_b (fun x0 x1 hk => (rnsame_e n _ x0 x1).trans (h x0 x1 hk))
theorem rnsame_loop (n : Nat) (ih : FnOk E rnsame_id (rnsame_W n)) (x y : Node) (ha : x.kids.length ≤ 1000000) (hab : x.kids.length = y.kids.length) (hda : ∀ z ∈ x.kids, dp n z = true) (hdb : ∀ z ∈ y.kids, dp n z = true) : ∀ (m i : Nat), x.kids.length - i = m → i ≤ x.kids.length →
    Ev E Tryz.f12 [⟨.bool, sameW (same n) (x.kids.drop i) (y.kids.drop i)⟩] 0 (rnsame_C0 i x.kind x.text x.keys x.kids y.kind y.text y.keys y.kids) := by
  intro m
  induction m with
  | zero =>
    intro i h1 h2
    refine rnsame_s0 n ih ?_
    simp only [rnsame_t0, dge (show x.kids.length ≤ i by omega), cond_false, List.drop_eq_nil_of_le (show x.kids.length ≤ i by omega), List.drop_eq_nil_of_le (show y.kids.length ≤ i by omega)]
    rfl
  | succ m ih2 =>
    intro i h1 h2
    have hi : i < x.kids.length := by omega
    have hj : i < y.kids.length := by omega
    have hok : okS n x.kids[i] y.kids[i] = true := by simp only [okS, hda _ (List.getElem_mem hi), hdb _ (List.getElem_mem hj), Bool.and_self]
    refine rnsame_s0 n ih ?_
    simp only [rnsame_t0, dlt hi, dlt hj, d0, gd x.kids _ i hi, gd y.kids _ i hj, Bool.and_self, cond_true, node_eta, hok]
    rw [← List.getElem_cons_drop hi, ← List.getElem_cons_drop hj, w64_id (by omega) (by omega)]
    simp only [sameW]
    cases same n x.kids[i] y.kids[i] with
    | false => rfl
    | true =>
      simp only [Bool.not_true, cond_false, Bool.true_and]
      exact Gr_of (ih2 (i + 1) (by omega) (by omega))
theorem rnsame_ok (n : Nat) : FnOk E rnsame_id (rnsame_W n) := by
  induction n with
  | zero => exact fn2_bot rnsame_ex fun x y => rfl
  | succ n ih =>
    refine rnsame_ok_of n ih fun a b hk => ?_
    simp only [okS, Bool.and_eq_true] at hk
    obtain ⟨ha, ha2⟩ := dp_iff.1 hk.1
    obtain ⟨hb, hb2⟩ := dp_iff.1 hk.2
    have hl : ln6 a.keys = true := ln6_iff.2 ha.1
    simp only [rnsame_t, hl, Bool.true_or, cond_true, same, equal]
    by_cases h1 : a.kind = b.kind
    · rw [neF h1, eqT h1]
      cases a.text == b.text with
      | false => rfl
      | true =>
        cases a.keys == b.keys with
        | false => rfl
        | true =>
          simp only [Bool.not_true, cond_false, Bool.true_and]
          by_cases hlen : a.kids.length = b.kids.length
          · rw [neF (by omega), cond_false]
            have := Gr_of (rnsame_loop n ih a b ha.2 hlen ha2 hb2 a.kids.length 0 (by omega) (by omega))
            rw [List.drop_zero, List.drop_zero] at this
            exact this
          · rw [neT (by omega), cond_true, sameW_len hlen]
    · rw [neT h1, eqF h1]
      rfl
def sortN : Nat → Node → Node
  | 0, x => x
  | n + 1, x => bif x.kind == 3 then ⟨x.kind, x.text, Pl.sortD x.keys, (Pl.sortD x.keys).map fun k => sortN n (getV x k)⟩ else ⟨x.kind, x.text, [], x.kids.map (sortN n)⟩
noncomputable def rnsorted_W (n : Nat) : FnW E := fn1 (E := E) .api_Node .api_Node (wg 10000 n) (sortN n)
def rnsorted_id : FuncId := 140
noncomputable def rnsorted_O (n : Nat) : Oracle E := orac [(13, rsorted_W), (102, rget_W), (140, rnsorted_W n)] [] [] []
noncomputable def rnsorted_H : Hint E := Hint.mk [(0, [1, 2, 3, 4, 5]), (1, [1, 2, 3, 8])] [] [(0, [(3, some 2, true, .str), (3, some 3, true, .api_Node)]), (1, [(3, some 3, true, .api_Node)])] [] []
noncomputable def rnsorted_C0 (v0 : List (List UInt8)) (v1 v2 : Int) (v3 : List UInt8) (v4 : List (List UInt8)) (v5 : List Node) (v6 : Int) (v7 : List UInt8) (v8 : Int) (v9 : List UInt8) (v10 : List (List UInt8)) (v11 : List Node) : ASt E := ASt.mk 71 [(1, .ptr 0 0), (2, .ptr 1 0), (3, .ptr 2 0), (4, .d (.slice .str v0)), (5, .d (.int .i64 v1))] [(0, .box [.d (.int .i64 v2), .d (.str v3), .d (.slice .str v4), .d (.slice .api_Node v5)]), (1, .box [.d (.int .i64 v6), .d (.str v7), .d (.raw (.slice none 0 0)), .d (.raw (.slice none 0 0))]), (2, .box [.d (.int .i64 v8), .d (.str v9), .grow .str v10 3, .grow .api_Node v11 4]), (3, .tail true), (4, .tail true)] 5
noncomputable def rnsorted_C1 (v0 v1 : Int) (v2 : List UInt8) (v3 : List (List UInt8)) (v4 : List Node) (v5 : Int) (v6 : List UInt8) (v7 : Int) (v8 : List UInt8) (v9 : List Node) : ASt E := ASt.mk 71 [(1, .ptr 0 0), (2, .ptr 1 0), (3, .ptr 2 0), (8, .d (.int .i64 v0))] [(0, .box [.d (.int .i64 v1), .d (.str v2), .d (.slice .str v3), .d (.slice .api_Node v4)]), (1, .box [.d (.int .i64 v5), .d (.str v6), .d (.raw (.slice none 0 0)), .d (.raw (.slice none 0 0))]), (2, .box [.d (.int .i64 v7), .d (.str v8), .d (.raw (.slice none 0 0)), .grow .api_Node v9 3]), (3, .tail true)] 4
noncomputable def rnsorted_t (_n : Nat) (G : Nat → ASt E → Option (List (TV E))) (x0 : Node) : Option (List (TV E)) :=
  bif (x0.kind == (3 : Int)) then (bif (ln6 x0.keys) then G 0 (rnsorted_C0 (Pl.sortD x0.keys) (0 : Int) x0.kind x0.text x0.keys x0.kids (0 : Int) ([] : List UInt8) x0.kind x0.text ([] : List (List UInt8)) ([] : List Node)) else none) else G 1 (rnsorted_C1 (0 : Int) x0.kind x0.text x0.keys x0.kids (0 : Int) ([] : List UInt8) x0.kind x0.text ([] : List Node))
theorem rnsorted_e (n : Nat) (G : Nat → ASt E → Option (List (TV E))) (x0 : Node) : runE (rnsorted_O n) rnsorted_H G Tryz.f140 [⟨.api_Node, x0⟩] = rnsorted_t n G x0 := by kernel_rfl
noncomputable def rnsorted_t0 (n : Nat) (G : Nat → ASt E → Option (List (TV E))) (v0 : List (List UInt8)) (v1 v2 : Int) (v3 : List UInt8) (v4 : List (List UInt8)) (v5 : List Node) (v6 : Int) (v7 : List UInt8) (v8 : Int) (v9 : List UInt8) (v10 : List (List UInt8)) (v11 : List Node) : Option (List (TV E)) :=
  bif (decide (v1 < (v0.length : Int))) then (bif (decide ((0 : Int) ≤ v1) && decide (v1 < (v0.length : Int))) then (bif ((fun n _ => fit n) (⟨v2, v3, v4, v5⟩ : Node) (List.getD v0 (Int.toNat v1) (dflt .str))) then (bif (decide ((0 : Int) ≤ v1) && decide (v1 < (v0.length : Int))) then (bif (decide ((v10.length + ([(List.getD v0 (Int.toNat v1) (dflt .str))] : List (List UInt8)).length) * 16 ≤ maxBytes)) then (bif ((wg 10000 n) (⟨(getV (⟨v2, v3, v4, v5⟩ : Node) (List.getD v0 (Int.toNat v1) (dflt .str))).kind, (getV (⟨v2, v3, v4, v5⟩ : Node) (List.getD v0 (Int.toNat v1) (dflt .str))).text, (getV (⟨v2, v3, v4, v5⟩ : Node) (List.getD v0 (Int.toNat v1) (dflt .str))).keys, (getV (⟨v2, v3, v4, v5⟩ : Node) (List.getD v0 (Int.toNat v1) (dflt .str))).kids⟩ : Node)) then (bif (decide ((v11.length + ([((sortN n) (⟨(getV (⟨v2, v3, v4, v5⟩ : Node) (List.getD v0 (Int.toNat v1) (dflt .str))).kind, (getV (⟨v2, v3, v4, v5⟩ : Node) (List.getD v0 (Int.toNat v1) (dflt .str))).text, (getV (⟨v2, v3, v4, v5⟩ : Node) (List.getD v0 (Int.toNat v1) (dflt .str))).keys, (getV (⟨v2, v3, v4, v5⟩ : Node) (List.getD v0 (Int.toNat v1) (dflt .str))).kids⟩ : Node))] : List Node).length) * 72 ≤ maxBytes)) then G 0 (rnsorted_C0 v0 (w64 (v1 + (1 : Int))) v2 v3 v4 v5 v6 v7 v8 v9 (v10 ++ ([(List.getD v0 (Int.toNat v1) (dflt .str))] : List (List UInt8))) (v11 ++ ([((sortN n) (⟨(getV (⟨v2, v3, v4, v5⟩ : Node) (List.getD v0 (Int.toNat v1) (dflt .str))).kind, (getV (⟨v2, v3, v4, v5⟩ : Node) (List.getD v0 (Int.toNat v1) (dflt .str))).text, (getV (⟨v2, v3, v4, v5⟩ : Node) (List.getD v0 (Int.toNat v1) (dflt .str))).keys, (getV (⟨v2, v3, v4, v5⟩ : Node) (List.getD v0 (Int.toNat v1) (dflt .str))).kids⟩ : Node))] : List Node))) else none) else none) else none) else none) else none) else none) else some [⟨.api_Node, (⟨v8, v9, v10, v11⟩ : Node)⟩]
theorem rnsorted_l0 (n : Nat) (G : Nat → ASt E → Option (List (TV E))) (v0 : List (List UInt8)) (v1 v2 : Int) (v3 : List UInt8) (v4 : List (List UInt8)) (v5 : List Node) (v6 : Int) (v7 : List UInt8) (v8 : Int) (v9 : List UInt8) (v10 : List (List UInt8)) (v11 : List Node) : runL (rnsorted_O n) rnsorted_H G Tryz.f140 0 (rnsorted_C0 v0 v1 v2 v3 v4 v5 v6 v7 v8 v9 v10 v11) = rnsorted_t0 n G v0 v1 v2 v3 v4 v5 v6 v7 v8 v9 v10 v11 := by kernel_rfl
noncomputable def rnsorted_t1 (n : Nat) (G : Nat → ASt E → Option (List (TV E))) (v0 v1 : Int) (v2 : List UInt8) (v3 : List (List UInt8)) (v4 : List Node) (v5 : Int) (v6 : List UInt8) (v7 : Int) (v8 : List UInt8) (v9 : List Node) : Option (List (TV E)) :=
  bif (decide (v0 < (v4.length : Int))) then (bif (decide ((0 : Int) ≤ v0) && decide (v0 < (v4.length : Int))) then (bif ((wg 10000 n) (⟨(List.getD v4 (Int.toNat v0) (dflt .api_Node)).kind, (List.getD v4 (Int.toNat v0) (dflt .api_Node)).text, (List.getD v4 (Int.toNat v0) (dflt .api_Node)).keys, (List.getD v4 (Int.toNat v0) (dflt .api_Node)).kids⟩ : Node)) then (bif (decide ((v9.length + ([((sortN n) (⟨(List.getD v4 (Int.toNat v0) (dflt .api_Node)).kind, (List.getD v4 (Int.toNat v0) (dflt .api_Node)).text, (List.getD v4 (Int.toNat v0) (dflt .api_Node)).keys, (List.getD v4 (Int.toNat v0) (dflt .api_Node)).kids⟩ : Node))] : List Node).length) * 72 ≤ maxBytes)) then G 1 (rnsorted_C1 (w64 (v0 + (1 : Int))) v1 v2 v3 v4 v5 v6 v7 v8 (v9 ++ ([((sortN n) (⟨(List.getD v4 (Int.toNat v0) (dflt .api_Node)).kind, (List.getD v4 (Int.toNat v0) (dflt .api_Node)).text, (List.getD v4 (Int.toNat v0) (dflt .api_Node)).keys, (List.getD v4 (Int.toNat v0) (dflt .api_Node)).kids⟩ : Node))] : List Node))) else none) else none) else none) else some [⟨.api_Node, (⟨v7, v8, ([] : List (List UInt8)), v9⟩ : Node)⟩]
theorem rnsorted_l1 (n : Nat) (G : Nat → ASt E → Option (List (TV E))) (v0 v1 : Int) (v2 : List UInt8) (v3 : List (List UInt8)) (v4 : List Node) (v5 : Int) (v6 : List UInt8) (v7 : Int) (v8 : List UInt8) (v9 : List Node) : runL (rnsorted_O n) rnsorted_H G Tryz.f140 1 (rnsorted_C1 v0 v1 v2 v3 v4 v5 v6 v7 v8 v9) = rnsorted_t1 n G v0 v1 v2 v3 v4 v5 v6 v7 v8 v9 := by kernel_rfl
theorem rnsorted_f : Tryz.prog.funcs[140]? = some Tryz.f140 := by kernel_rfl
theorem rnsorted_n : (Tryz.f140.name == "runtime.NumGoroutine") = false := by kernel_rfl
theorem rnsorted_b : Tryz.f140.body.isNone = false := by kernel_rfl
theorem rnsorted_ex : ∃ fn, Tryz.prog.funcs[140]? = some fn ∧ (fn.name == "runtime.NumGoroutine") = false ∧ fn.body.isNone = false := ⟨Tryz.f140, rnsorted_f, rnsorted_n, rnsorted_b⟩
theorem rnsorted_hO (n : Nat) (ih : FnOk E rnsorted_id (rnsorted_W n)) : OracleOk E (rnsorted_O n) := orac_ok (.cons rsorted_ok (.cons rget_ok (.cons ih .nil))) .nil .nil .nil
theorem rnsorted_s0 (n : Nat) (ih : FnOk E rnsorted_id (rnsorted_W n)) {res : List (TV E)} {v0 : List (List UInt8)} {v1 v2 : Int} {v3 : List UInt8} {v4 : List (List UInt8)} {v5 : List Node} {v6 : Int} {v7 : List UInt8} {v8 : Int} {v9 : List UInt8} {v10 : List (List UInt8)} {v11 : List Node} (h : rnsorted_t0 n (Gr E Tryz.f140 res) v0 v1 v2 v3 v4 v5 v6 v7 v8 v9 v10 v11 = some res) : Ev E Tryz.f140 res 0 (rnsorted_C0 v0 v1 v2 v3 v4 v5 v6 v7 v8 v9 v10 v11) := Ev.step (rnsorted_hO n ih) mix ((rnsorted_l0 n _ v0 v1 v2 v3 v4 v5 v6 v7 v8 v9 v10 v11).trans h)
theorem rnsorted_s1 (n : Nat) (ih : FnOk E rnsorted_id (rnsorted_W n)) {res : List (TV E)} {v0 v1 : Int} {v2 : List UInt8} {v3 : List (List UInt8)} {v4 : List Node} {v5 : Int} {v6 : List UInt8} {v7 : Int} {v8 : List UInt8} {v9 : List Node} (h : rnsorted_t1 n (Gr E Tryz.f140 res) v0 v1 v2 v3 v4 v5 v6 v7 v8 v9 = some res) : Ev E Tryz.f140 res 1 (rnsorted_C1 v0 v1 v2 v3 v4 v5 v6 v7 v8 v9) := Ev.step (rnsorted_hO n ih) mix ((rnsorted_l1 n _ v0 v1 v2 v3 v4 v5 v6 v7 v8 v9).trans h)
theorem rnsorted_ok_of (n : Nat) (ih : FnOk E rnsorted_id (rnsorted_W n)) (h : ∀ (x0 : Node), (wg 10000 (n + 1)) x0 = true → rnsorted_t n (Gr E Tryz.f140 [⟨.api_Node, (sortN (n + 1)) x0⟩]) x0 = some [⟨.api_Node, (sortN (n + 1)) x0⟩]) : FnOk E rnsorted_id (rnsorted_W (n + 1)) := fn1_ok (rnsorted_hO n ih) mix rnsorted_f rnsorted_n rnsorted_b (fun x0 hk => (rnsorted_e n _ x0).trans (h x0 hk))
theorem rnsorted_0 (n : Nat) (ih : FnOk E rnsorted_id (rnsorted_W n)) (x : Node) (hx : wg 10000 (n + 1) x = true) (h3 : x.kind = 3) (ks : List (List UInt8)) (hks : ks.length ≤ 10000) (hm : ∀ k ∈ ks, k ∈ x.keys) (u0 : Int) (u1 : List UInt8) (v0 : Int) (v1 : List UInt8) :
    ∀ (m i : Nat) (ok : List (List UInt8)) (ov : List Node), ks.length - i = m → i ≤ ks.length → ok.length = i → ov.length = i →
      Ev E Tryz.f140 [⟨.api_Node, (⟨v0, v1, ok ++ ks.drop i, ov ++ (ks.drop i).map fun k => sortN n (getV x k)⟩ : Node)⟩] 0 (rnsorted_C0 ks i x.kind x.text x.keys x.kids u0 u1 v0 v1 ok ov) := by
  have fx := wg_fit hx (by decide)
  intro m
  induction m with
  | zero =>
    intro i ok ov h1 h2 h3 h4
    refine rnsorted_s0 n ih ?_
    simp only [rnsorted_t0, dge (show ks.length ≤ i by omega), cond_false, List.drop_eq_nil_of_le (show ks.length ≤ i by omega), List.append_nil, List.map_nil]
  | succ m ih2 =>
    intro i ok ov h1 h2 h3' h4
    have hi : i < ks.length := by omega
    have e1 : decide ((ok.length + [ks[i]].length) * 16 ≤ maxBytes) = true := dT (by rw [mb, List.length_singleton]; omega)
    have e2 : ∀ v : Node, decide ((ov.length + [v].length) * 72 ≤ maxBytes) = true := fun v => dT (by rw [mb, List.length_singleton]; omega)
    have hw : wg 10000 n (getV x ks[i]) = true := wg_get hx (getB_g hx h3 (hm _ (List.getElem_mem hi)))
    refine rnsorted_s0 n ih ?_
    simp only [rnsorted_t0, dlt hi, d0, gd ks _ i hi, Bool.and_self, cond_true, node_eta, fx, e1, e2, hw]
    rw [← List.getElem_cons_drop hi, w64_id (by omega) (by omega)]
    have := Gr_of (ih2 (i + 1) (ok ++ [ks[i]]) (ov ++ [sortN n (getV x ks[i])]) (by omega) (by omega) (by simp [h3']) (by simp [h4]))
    rw [List.append_assoc, List.append_assoc] at this
    exact this
theorem rnsorted_1 (n : Nat) (ih : FnOk E rnsorted_id (rnsorted_W n)) (x : Node) (hx : wg 10000 (n + 1) x = true) (u0 : Int) (u1 : List UInt8) (v0 : Int) (v1 : List UInt8) :
    ∀ (m i : Nat) (ov : List Node), x.kids.length - i = m → i ≤ x.kids.length → ov.length = i →
      Ev E Tryz.f140 [⟨.api_Node, (⟨v0, v1, [], ov ++ (x.kids.drop i).map (sortN n)⟩ : Node)⟩] 1 (rnsorted_C1 i x.kind x.text x.keys x.kids u0 u1 v0 v1 ov) := by
  have hw := wg_iff.1 hx
  intro m
  induction m with
  | zero =>
    intro i ov h1 h2 h3
    refine rnsorted_s1 n ih ?_
    simp only [rnsorted_t1, dge (show x.kids.length ≤ i by omega), cond_false, List.drop_eq_nil_of_le (show x.kids.length ≤ i by omega), List.append_nil, List.map_nil]
  | succ m ih2 =>
    intro i ov h1 h2 h3
    have hi : i < x.kids.length := by omega
    have e2 : ∀ v : Node, decide ((ov.length + [v].length) * 72 ≤ maxBytes) = true := fun v => dT (by rw [mb, List.length_singleton]; omega)
    have hk : wg 10000 n x.kids[i] = true := hw.2.2.2 _ (List.getElem_mem hi)
    refine rnsorted_s1 n ih ?_
    simp only [rnsorted_t1, dlt hi, d0, gd x.kids _ i hi, Bool.and_self, cond_true, node_eta, e2, hk]
    rw [← List.getElem_cons_drop hi, w64_id (by omega) (by omega)]
    have := Gr_of (ih2 (i + 1) (ov ++ [sortN n x.kids[i]]) (by omega) (by omega) (by simp [h3]))
    rw [List.append_assoc] at this
    exact this
theorem rnsorted_ok (n : Nat) : FnOk E rnsorted_id (rnsorted_W n) := by
  induction n with
  | zero => exact fn1_bot rnsorted_ex fun x => rfl
  | succ n ih =>
    refine rnsorted_ok_of n ih fun x hk => ?_
    have hw := wg_iff.1 hk
    simp only [rnsorted_t, sortN]
    by_cases h3 : x.kind = 3
    · have hl : ln6 x.keys = true := ln6_iff.2 (by omega)
      have hs := Pl.sortD_len x.keys
      rw [eqT h3, cond_true, hl, cond_true, cond_true]
      have := Gr_of (rnsorted_0 n ih x hk h3 (Pl.sortD x.keys) (by omega) (fun k hk => Pl.sortD_mem.1 hk) 0 [] x.kind x.text _ 0 [] [] rfl (Nat.zero_le _) rfl rfl)
      rw [List.drop_zero, List.nil_append, List.nil_append] at this
      exact this
    · rw [eqF h3, cond_false, cond_false]
      have := Gr_of (rnsorted_1 n ih x hk 0 [] x.kind x.text _ 0 [] rfl (Nat.zero_le _) rfl)
      rw [List.drop_zero, List.nil_append] at this
      exact this
/-! How many nodes may still come -/
def kidsV (g : Node → Int → Int) : List Node → Int → Int
  | [], l => l
  | k :: t, l => bif decide (g k l < 0) then -1 else kidsV g t (g k l)
def badA (x : Node) (deep l : Int) : Bool := bif (bif (bif decide (l < 0) then true else decide (12 < deep)) then true else decide (x.kind < 0)) then true else decide (3 < x.kind)
def badB (x : Node) : Bool := bif (bif (bif x.kind != 1 then decide ((0 : Int) < (x.text.length : Int)) else false) then true else (bif x.kind != 3 then decide ((0 : Int) < (x.keys.length : Int)) else false)) then true else (bif decide (x.kind < 2) then decide ((0 : Int) < (x.kids.length : Int)) else false)
def badC (x : Node) (l : Int) : Bool := bif x.kind == 3 then (bif (bif (x.keys.length : Int) != (x.kids.length : Int) then true else decide (l < (x.kids.length : Int))) then true else ((Pl.sortD x.keys).length : Int) != (x.keys.length : Int)) else false
def leftV : Nat → Node → Int → Int → Int
  | 0, _, _, _ => -1
  | n + 1, x, deep, left => bif badA x deep (left - 1) then -1 else bif badB x then -1 else bif badC x (left - 1) then -1 else kidsV (fun k l => leftV n k (deep + 1) l) x.kids (left - 1)
theorem kidsV_le {g : Node → Int → Int} (hg : ∀ k l, 0 ≤ g k l → g k l + 1 ≤ l) : ∀ (ks : List Node) (l : Int), 0 ≤ kidsV g ks l → kidsV g ks l + ks.length ≤ l ∧ ∀ k ∈ ks, ∃ l', 0 ≤ g k l' ∧ l' ≤ l
  | [], l, _ => ⟨by simp [kidsV], fun k hk => by cases hk⟩
  | k :: t, l, h => by
    unfold kidsV at h ⊢
    by_cases hk : g k l < 0
    · rw [dT hk, cond_true] at h
      omega
    · rw [dF hk, cond_false] at h ⊢
      obtain ⟨h1, h2⟩ := kidsV_le hg t (g k l) h
      have h3 := hg k l (by omega)
      refine ⟨by rw [List.length_cons]; omega, fun y hy => ?_⟩
      rcases List.mem_cons.1 hy with rfl | hy
      · exact ⟨l, by omega, Int.le_refl _⟩
      · obtain ⟨l', h4, h5⟩ := h2 y hy
        exact ⟨l', h4, by omega⟩
theorem leftV_le : ∀ (n : Nat) (x : Node) (d l : Int), 0 ≤ leftV n x d l → leftV n x d l + 1 ≤ l
  | 0, _, _, _, h => by simp [leftV] at h
  | n + 1, x, d, l, h => by
    unfold leftV at h ⊢
    cases h1 : badA x d (l - 1) with
    | true => rw [h1, cond_true] at h; omega
    | false =>
      cases h2 : badB x with
      | true => rw [h1, h2, cond_false, cond_true] at h; omega
      | false =>
        cases h3 : badC x (l - 1) with
        | true => rw [h1, h2, h3, cond_false, cond_false, cond_true] at h; omega
        | false =>
          rw [h1, h2, h3, cond_false, cond_false, cond_false] at h
          simp only [cond_false]
          have := (kidsV_le (fun k l h => leftV_le n k (d + 1) l h) x.kids (l - 1) h).1
          omega
def okL (n : Nat) (_ : Node) (deep left : Int) : Bool := decide (1 ≤ n) && decide (n ≤ 13) && decide (deep + n = 14) && decide (-10 ≤ left) && decide (left ≤ 100000)
theorem okL_iff {n : Nat} {x : Node} {d l : Int} : okL n x d l = true ↔ (((1 ≤ n ∧ n ≤ 13) ∧ d + n = 14) ∧ -10 ≤ l) ∧ l ≤ 100000 := by simp [okL]
noncomputable def left_W (n : Nat) : FnW E := fn3 (E := E) .api_Node .int .int .int (okL n) (leftV n)
def left_id : FuncId := 7
noncomputable def left_O (n : Nat) : Oracle E := orac [(13, rsorted_W), (7, left_W n)] [] [] []
noncomputable def left_H : Hint E := Hint.mk [(0, [1, 2, 3, 7])] [] [] [] []
noncomputable def left_C0 (v0 v1 v2 v3 : Int) (v4 : List UInt8) (v5 : List (List UInt8)) (v6 : List Node) : ASt E := ASt.mk 105 [(1, .d (.int .i64 v0)), (2, .d (.int .i64 v1)), (3, .ptr 0 0), (7, .d (.int .i64 v2))] [(0, .box [.d (.int .i64 v3), .d (.str v4), .d (.slice .str v5), .d (.slice .api_Node v6)])] 1
noncomputable def left_t (_n : Nat) (G : Nat → ASt E → Option (List (TV E))) (x0 : Node) (x1 x2 : Int) : Option (List (TV E)) :=
  bif (bif (bif (bif (decide ((w64 (x2 - (1 : Int))) < (0 : Int))) then true else (decide ((12 : Int) < x1))) then true else (decide (x0.kind < (0 : Int)))) then true else (decide ((3 : Int) < x0.kind))) then some [⟨.int, (-1 : Int)⟩] else (bif (bif (bif (bif (x0.kind != (1 : Int)) then (decide ((0 : Int) < (x0.text.length : Int))) else false) then true else (bif (x0.kind != (3 : Int)) then (decide ((0 : Int) < (x0.keys.length : Int))) else false)) then true else (bif (decide (x0.kind < (2 : Int))) then (decide ((0 : Int) < (x0.kids.length : Int))) else false)) then some [⟨.int, (-1 : Int)⟩] else (bif ((ln6 x0.keys) || !((x0.kind == (3 : Int)) && (!(bif ((x0.keys.length : Int) != (x0.kids.length : Int)) then true else (decide ((w64 (x2 - (1 : Int))) < (x0.kids.length : Int))))))) then (bif (bif (x0.kind == (3 : Int)) then (bif (bif ((x0.keys.length : Int) != (x0.kids.length : Int)) then true else (decide ((w64 (x2 - (1 : Int))) < (x0.kids.length : Int)))) then true else (((Pl.sortD x0.keys).length : Int) != (x0.keys.length : Int))) else false) then some [⟨.int, (-1 : Int)⟩] else G 0 (left_C0 x1 (w64 (x2 - (1 : Int))) (0 : Int) x0.kind x0.text x0.keys x0.kids)) else none))
theorem left_e (n : Nat) (G : Nat → ASt E → Option (List (TV E))) (x0 : Node) (x1 : Int) (x2 : Int) : runE (left_O n) left_H G Tryz.f7 [⟨.api_Node, x0⟩, ⟨.int, x1⟩, ⟨.int, x2⟩] = left_t n G x0 x1 x2 := by kernel_rfl
noncomputable def left_t0 (n : Nat) (G : Nat → ASt E → Option (List (TV E))) (v0 v1 v2 v3 : Int) (v4 : List UInt8) (v5 : List (List UInt8)) (v6 : List Node) : Option (List (TV E)) :=
  bif (decide (v2 < (v6.length : Int))) then (bif (decide ((0 : Int) ≤ v2) && decide (v2 < (v6.length : Int))) then (bif ((okL n) (⟨(List.getD v6 (Int.toNat v2) (dflt .api_Node)).kind, (List.getD v6 (Int.toNat v2) (dflt .api_Node)).text, (List.getD v6 (Int.toNat v2) (dflt .api_Node)).keys, (List.getD v6 (Int.toNat v2) (dflt .api_Node)).kids⟩ : Node) (w64 (v0 + (1 : Int))) v1) then (bif (decide (((leftV n) (⟨(List.getD v6 (Int.toNat v2) (dflt .api_Node)).kind, (List.getD v6 (Int.toNat v2) (dflt .api_Node)).text, (List.getD v6 (Int.toNat v2) (dflt .api_Node)).keys, (List.getD v6 (Int.toNat v2) (dflt .api_Node)).kids⟩ : Node) (w64 (v0 + (1 : Int))) v1) < (0 : Int))) then some [⟨.int, (-1 : Int)⟩] else G 0 (left_C0 v0 ((leftV n) (⟨(List.getD v6 (Int.toNat v2) (dflt .api_Node)).kind, (List.getD v6 (Int.toNat v2) (dflt .api_Node)).text, (List.getD v6 (Int.toNat v2) (dflt .api_Node)).keys, (List.getD v6 (Int.toNat v2) (dflt .api_Node)).kids⟩ : Node) (w64 (v0 + (1 : Int))) v1) (w64 (v2 + (1 : Int))) v3 v4 v5 v6)) else none) else none) else some [⟨.int, v1⟩]
theorem left_l0 (n : Nat) (G : Nat → ASt E → Option (List (TV E))) (v0 v1 v2 v3 : Int) (v4 : List UInt8) (v5 : List (List UInt8)) (v6 : List Node) : runL (left_O n) left_H G Tryz.f7 0 (left_C0 v0 v1 v2 v3 v4 v5 v6) = left_t0 n G v0 v1 v2 v3 v4 v5 v6 := by kernel_rfl
theorem left_f : Tryz.prog.funcs[7]? = some Tryz.f7 := by kernel_rfl
theorem left_n : (Tryz.f7.name == "runtime.NumGoroutine") = false := by kernel_rfl
theorem left_b : Tryz.f7.body.isNone = false := by kernel_rfl
theorem left_ex : ∃ fn, Tryz.prog.funcs[7]? = some fn ∧ (fn.name == "runtime.NumGoroutine") = false ∧ fn.body.isNone = false := ⟨Tryz.f7, left_f, left_n, left_b⟩
theorem left_hO (n : Nat) (ih : FnOk E left_id (left_W n)) : OracleOk E (left_O n) := orac_ok (.cons rsorted_ok (.cons ih .nil)) .nil .nil .nil
theorem left_s0 (n : Nat) (ih : FnOk E left_id (left_W n)) {res : List (TV E)} {v0 v1 v2 v3 : Int} {v4 : List UInt8} {v5 : List (List UInt8)} {v6 : List Node} (h : left_t0 n (Gr E Tryz.f7 res) v0 v1 v2 v3 v4 v5 v6 = some res) : Ev E Tryz.f7 res 0 (left_C0 v0 v1 v2 v3 v4 v5 v6) := Ev.step (left_hO n ih) mix ((left_l0 n _ v0 v1 v2 v3 v4 v5 v6).trans h)
theorem left_ok_of (n : Nat) (ih : FnOk E left_id (left_W n)) (h : ∀ (x0 : Node) (x1 : Int) (x2 : Int), (okL (n + 1)) x0 x1 x2 = true → left_t n (Gr E Tryz.f7 [⟨.int, (leftV (n + 1)) x0 x1 x2⟩]) x0 x1 x2 = some [⟨.int, (leftV (n + 1)) x0 x1 x2⟩]) : FnOk E left_id (left_W (n + 1)) := fn3_ok (left_hO n ih) mix left_f left_n left_b (fun x0 x1 x2 hk => (left_e n _ x0 x1 x2).trans (h x0 x1 x2 hk))
theorem left_loop (n : Nat) (ih : FnOk E left_id (left_W n)) (x : Node) (d : Int) (hn1 : 1 ≤ n) (hn2 : n ≤ 12) (hd : d + 1 + n = 14) : ∀ (m i : Nat) (l : Int), x.kids.length - i = m → i ≤ x.kids.length → 0 ≤ l → l + i ≤ 100000 →
    Ev E Tryz.f7 [⟨.int, kidsV (fun k l => leftV n k (d + 1) l) (x.kids.drop i) l⟩] 0 (left_C0 d l i x.kind x.text x.keys x.kids) := by
  intro m
  induction m with
  | zero =>
    intro i l h1 h2 h3 h4
    refine left_s0 n ih ?_
    simp only [left_t0, dge (show x.kids.length ≤ i by omega), cond_false, List.drop_eq_nil_of_le (show x.kids.length ≤ i by omega)]
    rfl
  | succ m ih2 =>
    intro i l h1 h2 h3 h4
    have hi : i < x.kids.length := by omega
    have e1 : w64 (d + 1) = d + 1 := w64_id (by omega) (by omega)
    have e2 : okL n x.kids[i] (d + 1) l = true := okL_iff.2 ⟨⟨⟨⟨hn1, by omega⟩, by omega⟩, by omega⟩, by omega⟩
    have hle := leftV_le n x.kids[i] (d + 1) l
    refine left_s0 n ih ?_
    simp only [left_t0, dlt hi, d0, gd x.kids _ i hi, Bool.and_self, cond_true, node_eta, e1, e2]
    rw [← List.getElem_cons_drop hi]
    simp only [kidsV]
    by_cases hk : leftV n x.kids[i] (d + 1) l < 0
    · rw [dT hk]; rfl
    · rw [dF hk, cond_false, cond_false, w64_id (by omega) (by omega)]
      exact Gr_of (ih2 (i + 1) _ (by omega) (by omega) (by omega) (by have := hle (by omega); omega))
theorem left_ok (n : Nat) : FnOk E left_id (left_W n) := by
  induction n with
  | zero => exact fn3_bot left_ex fun x y z => by simp [okL]
  | succ n ih =>
    refine left_ok_of n ih fun x d l hk => ?_
    have hk := okL_iff.1 hk
    have e1 : w64 (l - 1) = l - 1 := w64_id (by omega) (by omega)
    simp only [left_t, e1, leftV]
    change (bif badA x d (l - 1) then _ else bif badB x then _ else _) = _
    cases h1 : badA x d (l - 1) with
    | true => rfl
    | false =>
      cases h2 : badB x with
      | true => rfl
      | false =>
        simp only [cond_false]
        have hA : ¬ l - 1 < 0 ∧ ¬ 12 < d := by
          unfold badA at h1
          by_cases a1 : l - 1 < 0
          · rw [dT a1] at h1; cases h1
          · by_cases a2 : 12 < d
            · rw [dF a1, dT a2] at h1; cases h1
            · exact ⟨a1, a2⟩
        have hcond : (ln6 x.keys || !(x.kind == 3 && !(bif (x.keys.length : Int) != (x.kids.length : Int) then true else decide (l - 1 < (x.kids.length : Int))))) = true := by
          by_cases a1 : (x.keys.length : Int) = x.kids.length
          · by_cases a2 : l - 1 < (x.kids.length : Int)
            · rw [neF a1, dT a2]; simp
            · rw [ln6_iff.2 (by omega)]; rfl
          · rw [neT a1]; simp
        rw [hcond, cond_true]
        change (bif badC x (l - 1) then _ else _) = _
        cases h3 : badC x (l - 1) with
        | true => rfl
        | false =>
          simp only [cond_false]
          have := Gr_of (left_loop n ih x d (by omega) (by omega) (by omega) x.kids.length 0 (l - 1) (by omega) (by omega) (by omega) (by omega))
          rw [List.drop_zero] at this
          exact this
def shortV : Nat → Node → Bool
  | 0, _ => false
  | n + 1, x => decide (x.text.length ≤ 200) && (x.keys.all (fun k => decide (k.length ≤ 200)) && x.kids.all (shortV n))
noncomputable def short_W (n : Nat) : FnW E := fn1 (E := E) .api_Node .bool (dp n) (shortV n)
def short_id : FuncId := 8
noncomputable def short_O (n : Nat) : Oracle E := orac [(8, short_W n)] [] [] []
noncomputable def short_H : Hint E := Hint.mk [(0, [1, 3]), (1, [1, 4])] [] [] [] []
noncomputable def short_C0 (v0 v1 : Int) (v2 : List UInt8) (v3 : List (List UInt8)) (v4 : List Node) : ASt E := ASt.mk 37 [(1, .ptr 0 0), (3, .d (.int .i64 v0))] [(0, .box [.d (.int .i64 v1), .d (.str v2), .d (.slice .str v3), .d (.slice .api_Node v4)])] 1
noncomputable def short_C1 (v0 v1 : Int) (v2 : List UInt8) (v3 : List (List UInt8)) (v4 : List Node) : ASt E := ASt.mk 37 [(1, .ptr 0 0), (4, .d (.int .i64 v0))] [(0, .box [.d (.int .i64 v1), .d (.str v2), .d (.slice .str v3), .d (.slice .api_Node v4)])] 1
noncomputable def short_t (_n : Nat) (G : Nat → ASt E → Option (List (TV E))) (x0 : Node) : Option (List (TV E)) :=
  bif (decide ((200 : Int) < (x0.text.length : Int))) then some [⟨.bool, false⟩] else G 0 (short_C0 (0 : Int) x0.kind x0.text x0.keys x0.kids)
theorem short_e (n : Nat) (G : Nat → ASt E → Option (List (TV E))) (x0 : Node) : runE (short_O n) short_H G Tryz.f8 [⟨.api_Node, x0⟩] = short_t n G x0 := by kernel_rfl
noncomputable def short_t0 (_n : Nat) (G : Nat → ASt E → Option (List (TV E))) (v0 v1 : Int) (v2 : List UInt8) (v3 : List (List UInt8)) (v4 : List Node) : Option (List (TV E)) :=
  bif (decide (v0 < (v3.length : Int))) then (bif (decide ((0 : Int) ≤ v0) && decide (v0 < (v3.length : Int))) then (bif (decide ((200 : Int) < ((List.getD v3 (Int.toNat v0) (dflt .str)).length : Int))) then some [⟨.bool, false⟩] else G 0 (short_C0 (w64 (v0 + (1 : Int))) v1 v2 v3 v4)) else none) else G 1 (short_C1 (0 : Int) v1 v2 v3 v4)
theorem short_l0 (n : Nat) (G : Nat → ASt E → Option (List (TV E))) (v0 v1 : Int) (v2 : List UInt8) (v3 : List (List UInt8)) (v4 : List Node) : runL (short_O n) short_H G Tryz.f8 0 (short_C0 v0 v1 v2 v3 v4) = short_t0 n G v0 v1 v2 v3 v4 := by kernel_rfl
noncomputable def short_t1 (n : Nat) (G : Nat → ASt E → Option (List (TV E))) (v0 v1 : Int) (v2 : List UInt8) (v3 : List (List UInt8)) (v4 : List Node) : Option (List (TV E)) :=
  bif (decide (v0 < (v4.length : Int))) then (bif (decide ((0 : Int) ≤ v0) && decide (v0 < (v4.length : Int))) then (bif ((dp n) (⟨(List.getD v4 (Int.toNat v0) (dflt .api_Node)).kind, (List.getD v4 (Int.toNat v0) (dflt .api_Node)).text, (List.getD v4 (Int.toNat v0) (dflt .api_Node)).keys, (List.getD v4 (Int.toNat v0) (dflt .api_Node)).kids⟩ : Node)) then (bif (!((shortV n) (⟨(List.getD v4 (Int.toNat v0) (dflt .api_Node)).kind, (List.getD v4 (Int.toNat v0) (dflt .api_Node)).text, (List.getD v4 (Int.toNat v0) (dflt .api_Node)).keys, (List.getD v4 (Int.toNat v0) (dflt .api_Node)).kids⟩ : Node))) then some [⟨.bool, false⟩] else G 1 (short_C1 (w64 (v0 + (1 : Int))) v1 v2 v3 v4)) else none) else none) else some [⟨.bool, true⟩]
theorem short_l1 (n : Nat) (G : Nat → ASt E → Option (List (TV E))) (v0 v1 : Int) (v2 : List UInt8) (v3 : List (List UInt8)) (v4 : List Node) : runL (short_O n) short_H G Tryz.f8 1 (short_C1 v0 v1 v2 v3 v4) = short_t1 n G v0 v1 v2 v3 v4 := by kernel_rfl
theorem short_f : Tryz.prog.funcs[8]? = some Tryz.f8 := by kernel_rfl
theorem short_n : (Tryz.f8.name == "runtime.NumGoroutine") = false := by kernel_rfl
theorem short_b : Tryz.f8.body.isNone = false := by kernel_rfl
theorem short_ex : ∃ fn, Tryz.prog.funcs[8]? = some fn ∧ (fn.name == "runtime.NumGoroutine") = false ∧ fn.body.isNone = false := ⟨Tryz.f8, short_f, short_n, short_b⟩
theorem short_hO (n : Nat) (ih : FnOk E short_id (short_W n)) : OracleOk E (short_O n) := orac_ok (.cons ih .nil) .nil .nil .nil
theorem short_s0 (n : Nat) (ih : FnOk E short_id (short_W n)) {res : List (TV E)} {v0 v1 : Int} {v2 : List UInt8} {v3 : List (List UInt8)} {v4 : List Node} (h : short_t0 n (Gr E Tryz.f8 res) v0 v1 v2 v3 v4 = some res) : Ev E Tryz.f8 res 0 (short_C0 v0 v1 v2 v3 v4) := Ev.step (short_hO n ih) mix ((short_l0 n _ v0 v1 v2 v3 v4).trans h)
theorem short_s1 (n : Nat) (ih : FnOk E short_id (short_W n)) {res : List (TV E)} {v0 v1 : Int} {v2 : List UInt8} {v3 : List (List UInt8)} {v4 : List Node} (h : short_t1 n (Gr E Tryz.f8 res) v0 v1 v2 v3 v4 = some res) : Ev E Tryz.f8 res 1 (short_C1 v0 v1 v2 v3 v4) := Ev.step (short_hO n ih) mix ((short_l1 n _ v0 v1 v2 v3 v4).trans h)
theorem short_ok_of (n : Nat) (ih : FnOk E short_id (short_W n)) (h : ∀ (x0 : Node), (dp (n + 1)) x0 = true → short_t n (Gr E Tryz.f8 [⟨.bool, (shortV (n + 1)) x0⟩]) x0 = some [⟨.bool, (shortV (n + 1)) x0⟩]) : FnOk E short_id (short_W (n + 1)) := fn1_ok (short_hO n ih) mix short_f short_n short_b (fun x0 hk => (short_e n _ x0).trans (h x0 hk))
theorem d200 {n : Nat} (h : n ≤ 200) : decide ((200 : Int) < (n : Int)) = false := dF (by omega)
theorem d200' {n : Nat} (h : ¬ n ≤ 200) : decide ((200 : Int) < (n : Int)) = true := dT (by omega)
theorem short_1 (n : Nat) (ih : FnOk E short_id (short_W n)) (x : Node) (hl : x.kids.length ≤ 1000000) (hd : ∀ y ∈ x.kids, dp n y = true) : ∀ (m i : Nat), x.kids.length - i = m → i ≤ x.kids.length →
    Ev E Tryz.f8 [⟨.bool, (x.kids.drop i).all (shortV n)⟩] 1 (short_C1 i x.kind x.text x.keys x.kids) := by
  intro m
  induction m with
  | zero =>
    intro i h1 h2
    refine short_s1 n ih ?_
    simp only [short_t1, dge (show x.kids.length ≤ i by omega), cond_false, List.drop_eq_nil_of_le (show x.kids.length ≤ i by omega)]
    rfl
  | succ m ih2 =>
    intro i h1 h2
    have hi : i < x.kids.length := by omega
    refine short_s1 n ih ?_
    simp only [short_t1, dlt hi, d0, gd x.kids _ i hi, Bool.and_self, cond_true, node_eta, hd _ (List.getElem_mem hi)]
    rw [← List.getElem_cons_drop hi, w64_id (by omega) (by omega), List.all_cons]
    cases shortV n x.kids[i] with
    | false => rfl
    | true =>
      simp only [Bool.not_true, cond_false, Bool.true_and]
      exact Gr_of (ih2 (i + 1) (by omega) (by omega))
theorem short_0 (n : Nat) (ih : FnOk E short_id (short_W n)) (x : Node) (hk : x.keys.length ≤ 1000000) (hl : x.kids.length ≤ 1000000) (hd : ∀ y ∈ x.kids, dp n y = true) : ∀ (m i : Nat), x.keys.length - i = m → i ≤ x.keys.length →
    Ev E Tryz.f8 [⟨.bool, (x.keys.drop i).all (fun k => decide (k.length ≤ 200)) && x.kids.all (shortV n)⟩] 0 (short_C0 i x.kind x.text x.keys x.kids) := by
  intro m
  induction m with
  | zero =>
    intro i h1 h2
    refine short_s0 n ih ?_
    simp only [short_t0, dge (show x.keys.length ≤ i by omega), cond_false, List.drop_eq_nil_of_le (show x.keys.length ≤ i by omega)]
    have := Gr_of (short_1 n ih x hl hd x.kids.length 0 (by omega) (by omega))
    rw [List.drop_zero] at this
    exact this
  | succ m ih2 =>
    intro i h1 h2
    have hi : i < x.keys.length := by omega
    refine short_s0 n ih ?_
    simp only [short_t0, dlt hi, d0, gd x.keys _ i hi, Bool.and_self, cond_true]
    rw [← List.getElem_cons_drop hi, w64_id (by omega) (by omega), List.all_cons]
    by_cases h : x.keys[i].length ≤ 200
    · rw [d200 h, cond_false, dT h, Bool.true_and]
      exact Gr_of (ih2 (i + 1) (by omega) (by omega))
    · rw [d200' h, cond_true, dF h]; rfl
theorem short_ok (n : Nat) : FnOk E short_id (short_W n) := by
  induction n with
  | zero => exact fn1_bot short_ex fun x => rfl
  | succ n ih =>
    refine short_ok_of n ih fun x hk => ?_
    have hk := dp_iff.1 hk
    simp only [short_t, shortV]
    by_cases h : x.text.length ≤ 200
    · rw [d200 h, cond_false, dT h, Bool.true_and]
      have := Gr_of (short_0 n ih x hk.1.1 hk.1.2 hk.2 x.keys.length 0 (by omega) (by omega))
      rw [List.drop_zero] at this
      exact this
    · rw [d200' h, cond_true, dF h]; rfl
theorem left_wf : ∀ (n : Nat) (x : Node) (d l : Int), d + (n + 1 : Nat) = 14 → l ≤ 201 → 0 ≤ leftV (n + 1) x d l → dp n x = true ∧ (shortV n x = true → wf 200 n x = true)
  | n, x, d, l, hd, hl, h => by
    unfold leftV at h
    cases h1 : badA x d (l - 1) with
    | true => rw [h1, cond_true] at h; omega
    | false =>
      cases h2 : badB x with
      | true => rw [h1, h2, cond_false, cond_true] at h; omega
      | false =>
        cases h3 : badC x (l - 1) with
        | true => rw [h1, h2, h3, cond_false, cond_false, cond_true] at h; omega
        | false =>
          rw [h1, h2, h3, cond_false, cond_false, cond_false] at h
          have hA : ¬ 12 < d := by
            intro a2
            unfold badA at h1
            rw [dT a2] at h1
            cases hx : decide (l - 1 < 0) <;> rw [hx] at h1 <;> cases h1
          obtain ⟨m, rfl⟩ : ∃ m, n = m + 1 := ⟨n - 1, by omega⟩
          obtain ⟨q1, q2⟩ := kidsV_le (fun k l h => leftV_le (m + 1) k (d + 1) l h) x.kids (l - 1) h
          have hrec : ∀ y ∈ x.kids, dp m y = true ∧ (shortV m y = true → wf 200 m y = true) := fun y hy => by
            obtain ⟨l', h4, h5⟩ := q2 y hy
            exact left_wf m y (d + 1) l' (by omega) (by omega) h4
          have hkeys : (x.kind = 3 → x.keys.length = x.kids.length) ∧ (x.kind ≠ 3 → x.keys.length = 0) := by
            constructor
            · intro e
              unfold badC at h3
              rw [eqT e, cond_true] at h3
              by_cases a1 : (x.keys.length : Int) = x.kids.length
              · omega
              · rw [neT a1] at h3; cases h3
            · intro e
              unfold badB at h2
              rw [neT e, cond_true] at h2
              by_cases a1 : (0 : Int) < (x.keys.length : Int)
              · rw [dT a1] at h2
                cases hx : (bif x.kind != 1 then decide ((0 : Int) < (x.text.length : Int)) else false) <;> rw [hx] at h2 <;> cases h2
              · omega
          have hk : x.keys.length ≤ 200 := by
            by_cases e : x.kind = 3
            · have := hkeys.1 e; omega
            · have := hkeys.2 e; omega
          refine ⟨dp_iff.2 ⟨⟨by omega, by omega⟩, fun y hy => (hrec y hy).1⟩, fun hs => ?_⟩
          simp only [shortV, Bool.and_eq_true, decide_eq_true_eq, List.all_eq_true] at hs
          exact wf_iff.2 ⟨hk, by omega, hkeys.1, hs.1, hs.2.1, fun y hy => (hrec y hy).2 (hs.2.2 y hy)⟩
  termination_by n => n
def okSm (_ : Node) (m : Int) : Bool := decide (0 ≤ m) && decide (m ≤ 200)
def smallV (x : Node) (m : Int) : Bool := bif decide (0 ≤ leftV 13 x 1 m) then shortV 12 x else false
noncomputable def small_W : FnW E := fn2 (E := E) .api_Node .int .bool okSm smallV
def small_id : FuncId := 4
noncomputable def small_O : Oracle E := orac [(7, left_W 13), (8, short_W 12)] [] [] []
noncomputable def small_H : Hint E := Hint.mk [] [] [] [] []
noncomputable def small_t (_G : Nat → ASt E → Option (List (TV E))) (x0 : Node) (x1 : Int) : Option (List (TV E)) :=
  bif ((okL 13) (⟨x0.kind, x0.text, x0.keys, x0.kids⟩ : Node) (1 : Int) x1) then (bif (((dp 12) (⟨x0.kind, x0.text, x0.keys, x0.kids⟩ : Node)) || !(decide ((0 : Int) ≤ ((leftV 13) (⟨x0.kind, x0.text, x0.keys, x0.kids⟩ : Node) (1 : Int) x1)))) then some [⟨.bool, (bif (decide ((0 : Int) ≤ ((leftV 13) (⟨x0.kind, x0.text, x0.keys, x0.kids⟩ : Node) (1 : Int) x1))) then ((shortV 12) (⟨x0.kind, x0.text, x0.keys, x0.kids⟩ : Node)) else false)⟩] else none) else none
theorem small_e (G : Nat → ASt E → Option (List (TV E))) (x0 : Node) (x1 : Int) : runE small_O small_H G Tryz.f4 [⟨.api_Node, x0⟩, ⟨.int, x1⟩] = small_t G x0 x1 := by kernel_rfl
theorem small_f : Tryz.prog.funcs[4]? = some Tryz.f4 := by kernel_rfl
theorem small_n : (Tryz.f4.name == "runtime.NumGoroutine") = false := by kernel_rfl
theorem small_b : Tryz.f4.body.isNone = false := by kernel_rfl
theorem small_ex : ∃ fn, Tryz.prog.funcs[4]? = some fn ∧ (fn.name == "runtime.NumGoroutine") = false ∧ fn.body.isNone = false := ⟨Tryz.f4, small_f, small_n, small_b⟩
theorem small_hO : OracleOk E small_O := orac_ok (.cons (left_ok 13) (.cons (short_ok 12) .nil)) .nil .nil .nil
theorem small_ok_of (h : ∀ (x0 : Node) (x1 : Int), okSm x0 x1 = true → small_t (Gr E Tryz.f4 [⟨.bool, smallV x0 x1⟩]) x0 x1 = some [⟨.bool, smallV x0 x1⟩]) : FnOk E small_id small_W := fn2_ok small_hO mix small_f small_n small_b (fun x0 x1 hk => (small_e _ x0 x1).trans (h x0 x1 hk))
theorem small_ok : FnOk E small_id small_W := small_ok_of fun x m hk => by
  have hm : 0 ≤ m ∧ m ≤ 200 := by simpa [okSm] using hk
  have e1 : okL 13 x 1 m = true := okL_iff.2 ⟨⟨⟨by decide, by decide⟩, by omega⟩, by omega⟩
  have e2 : (dp 12 x || !(decide (0 ≤ leftV 13 x 1 m))) = true := by
    by_cases h : 0 ≤ leftV 13 x 1 m
    · rw [(left_wf 12 x 1 m (by decide) (by omega) h).1]; rfl
    · rw [dF h]; simp
  simp only [small_t, node_eta, e1, e2, cond_true]
  rfl
theorem small_wf {x : Node} {m : Int} (hm : m ≤ 200) (h : smallV x m = true) : wf 200 12 x = true := by
  unfold smallV at h
  by_cases h0 : 0 ≤ leftV 13 x 1 m
  · rw [dT h0, cond_true] at h
    exact (left_wf 12 x 1 m (by decide) (by omega) h0).2 h
  · rw [dF h0] at h; cases h
end Go.Proofs.YtfoflgciceckoaaGreatDoor.Rf