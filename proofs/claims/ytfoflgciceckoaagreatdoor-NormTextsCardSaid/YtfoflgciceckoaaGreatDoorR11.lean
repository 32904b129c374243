/- The reference's fields (18): what is common. -/
import Derived.Test.YtfoflgciceckoaaGreatDoorR10
namespace Go.Proofs.YtfoflgciceckoaaGreatDoor.Rf
open Go Go.RowKit Go.Sort Go.Proofs.YtfoflgciceckoaaGreatDoor.Mir
/-! ### The reference's fields (18) -/
theorem wf_deep {B : Nat} : ∀ {n : Nat} {x : Node} (k : Nat), wf B n x = true → wf B (n + k) x = true
  | 0, _, _, h => by cases h
  | n + 1, x, k, h => by
    have := wf_iff.1 h
    rw [Nat.add_right_comm]
    exact wf_iff.2 ⟨this.1, this.2.1, this.2.2.1, this.2.2.2.1, this.2.2.2.2.1, fun y hy => wf_deep k (this.2.2.2.2.2 y hy)⟩
/-- Kinds that there are. -/
def kd : Nat → Node → Bool
  | 0, _ => false
  | n + 1, x => decide (0 ≤ x.kind) && decide (x.kind ≤ 3) && decide (x.kind ≠ 3 → x.keys.length = 0) && decide (x.kind < 2 → x.kids.length = 0) && x.kids.all (kd n)
theorem kd_iff {n : Nat} {x : Node} : kd (n + 1) x = true ↔ ((0 ≤ x.kind ∧ x.kind ≤ 3) ∧ (x.kind ≠ 3 → x.keys.length = 0)) ∧ (x.kind < 2 → x.kids.length = 0) ∧ ∀ y ∈ x.kids, kd n y = true := by
  simp only [kd, Bool.and_eq_true, decide_eq_true_eq, List.all_eq_true]
  exact ⟨fun ⟨⟨h1, h2⟩, h3⟩ => ⟨h1, h2, h3⟩, fun ⟨h1, h2, h3⟩ => ⟨⟨h1, h2⟩, h3⟩⟩
theorem kd_deep : ∀ {n : Nat} {x : Node} (k : Nat), kd n x = true → kd (n + k) x = true
  | 0, _, _, h => by cases h
  | n + 1, x, k, h => by
    have := kd_iff.1 h
    rw [Nat.add_right_comm]
    exact kd_iff.2 ⟨this.1, this.2.1, fun y hy => kd_deep k (this.2.2 y hy)⟩
/-- A node as it comes in. -/
def okNd (d : Nat) (n : Node) : Bool := wf 200 d n && kd d n
def okN (n : Node) : Bool := wf 200 11 n && kd 11 n
theorem okN_mk {n : Node} (h : wf 200 11 n = true) (h' : kd 11 n = true) : okN n = true := by simp only [okN, h, h', Bool.and_self]
theorem okN_wf {n : Node} (h : okN n = true) : wf 200 11 n = true := by simp only [okN, Bool.and_eq_true] at h; exact h.1
theorem okN_kd {n : Node} (h : okN n = true) : kd 11 n = true := by simp only [okN, Bool.and_eq_true] at h; exact h.2
theorem okN_kid {n y : Node} (h : okN n = true) (hy : y ∈ n.kids) : okN y = true :=
  okN_mk (wf_deep 1 ((wf_iff.1 (okN_wf h)).2.2.2.2.2 y hy)) (kd_deep 1 ((kd_iff.1 (okN_kd h)).2.2 y hy))
theorem okN_get {n : Node} {k : List UInt8} (h : okN n = true) : okN (getV n k) = true := by
  cases hg : getB n k with
  | true => exact okN_kid h (getV_mem hg)
  | false =>
    have : getV n k = zn := by
      unfold getB at hg
      unfold getV
      cases hq : get n k with
      | none => rfl
      | some x => rw [hq] at hg; cases hg
    rw [this]; rfl
theorem okN_wg {n : Node} (h : okN n = true) : wg 10000 11 n = true := wg_up (by decide) (wf_wg (okN_wf h))
structure Bq (φ : List UInt8 → Node → Prop) (d L : Nat) (x : Node) : Prop where
  bld : Bld φ x
  kids : ∀ y ∈ x.kids, wg 10000 d y = true
  len : x.keys.length ≤ L
theorem Bq.nil {φ : List UInt8 → Node → Prop} {d L : Nat} {k : Int} (hk : k = 0 ∨ k = 3) : Bq φ d L ⟨k, [], [], []⟩ := ⟨Bld.nil hk, (fun y h => by cases h), Nat.zero_le _⟩
theorem Bq.put {φ : List UInt8 → Node → Prop} {d L : Nat} {x : Node} (h : Bq φ d L x) {k : List UInt8} {v : Node} (hv : φ k v) (hw : wg 10000 d v = true) : Bq φ d (L + 1) (withV x k v) := by
  obtain ⟨_, _, h3, h4⟩ := withV_fit (k := k) (v := v) h.bld.kind h.bld.len
  exact ⟨h.bld.withV hv, fun y hy => (h4 y hy).elim (fun e => by rw [e]; exact hw) (h.kids y), by have := h.len; omega⟩
theorem Bq.ok {φ : List UInt8 → Node → Prop} {d L : Nat} {x : Node} (h : Bq φ d L x) (hL : L ≤ 100000) (k : List UInt8) (v : Node) : okWi x k v = true := okWi_iff.2 ⟨by have := h.len; omega, h.bld.len⟩
theorem Bq.wg_ {φ : List UInt8 → Node → Prop} {d L : Nat} {x : Node} (h : Bq φ d L x) (hL : x.keys.length ≤ 10000) (k : Int) : wg 10000 (d + 1) ⟨k, x.text, x.keys, x.kids⟩ = true :=
  wg_iff.2 ⟨hL, by show x.kids.length ≤ 10000; rw [← h.bld.len]; exact hL, fun _ => h.bld.len, h.kids⟩
theorem Bq.fits_ {φ : List UInt8 → Node → Prop} {f : List UInt8 → Sh} (hf : ∀ k v, φ k v → k = ext ∨ pfits (f k) v) {d L : Nat} {x : Node} (h : Bq φ d L x) : pfits (.map f) ⟨3, x.text, x.keys, x.kids⟩ :=
  ⟨⟨rfl, h.bld.text⟩, h.bld.len, fun k v hk => hf k v (h.bld.val k v hk)⟩
def leafK (_ : List UInt8) (v : Node) : Prop := v.kind ≠ 3
def txtN (s : List UInt8) : Node := ⟨1, s, [], []⟩
theorem txtN_wg (s : List UInt8) (d : Nat) : wg 10000 (d + 1) (txtN s) = true := by simp [txtN, wg]
theorem zn_wg (d : Nat) : wg 10000 (d + 1) (⟨0, [], [], []⟩ : Node) = true := by simp [wg]
def M1 (x : Node) : Prop := pfits (.map fun _ => .leaf) x ∧ wg 10000 2 x = true
def M2 (x : Node) : Prop := pfits (.map fun _ => .map fun _ => .leaf) x ∧ wg 10000 3 x = true
noncomputable def r18text_W : FnW E := fn1 (E := E) .str .api_Node (fun _ => true) txtN
def r18text_id : FuncId := 85
noncomputable def r18text_O : Oracle E := orac [] [] [] []
noncomputable def r18text_H : Hint E := Hint.mk [] [] [] [] []
noncomputable def r18text_t (_G : Nat → ASt E → Option (List (TV E))) (x0 : List UInt8) : Option (List (TV E)) :=
  some [⟨.api_Node, (⟨(1 : Int), x0, ([] : List (List UInt8)), ([] : List Node)⟩ : Node)⟩]
theorem r18text_e (G : Nat → ASt E → Option (List (TV E))) (x0 : List UInt8) : runE r18text_O r18text_H G Tryz.f85 [⟨.str, x0⟩] = r18text_t G x0 := by kernel_rfl
theorem r18text_f : Tryz.prog.funcs[85]? = some Tryz.f85 := by kernel_rfl
theorem r18text_n : (Tryz.f85.name == "runtime.NumGoroutine") = false := by kernel_rfl
theorem r18text_b : Tryz.f85.body.isNone = false := by kernel_rfl
theorem r18text_ex : ∃ fn, Tryz.prog.funcs[85]? = some fn ∧ (fn.name == "runtime.NumGoroutine") = false ∧ fn.body.isNone = false := ⟨Tryz.f85, r18text_f, r18text_n, r18text_b⟩
theorem r18text_hO : OracleOk E r18text_O := orac_ok .nil .nil .nil .nil
theorem r18text_ok_of (h : ∀ (x0 : List UInt8), r18text_t (Gr E Tryz.f85 [⟨.api_Node, txtN x0⟩]) x0 = some [⟨.api_Node, txtN x0⟩]) : FnOk E r18text_id r18text_W := fn1_ok r18text_hO mix r18text_f r18text_n r18text_b (fun x0 _ => (r18text_e _ x0).trans (h x0))
theorem r18text_ok : FnOk E r18text_id r18text_W := r18text_ok_of fun s => rfl
end Go.Proofs.YtfoflgciceckoaaGreatDoor.Rf