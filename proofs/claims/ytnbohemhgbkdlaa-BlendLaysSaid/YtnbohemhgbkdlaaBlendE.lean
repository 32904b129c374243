/- The law of overlaid nodes: plain facts, and what the law's function computes. -/
import Derived.Test.YtnbohemhgbkdlaaBlendD
namespace Go.Proofs.Ytnbohemhgbkdlaa.Bl
open Go Go.RowKit Go.Sort Go.Proofs.Ytnbohemhgbkdlaa.Mir
/-! ### Plain facts of nodes -/
theorem sameW_refl {f : Node → Node → Bool} : ∀ (l : List Node), (∀ x ∈ l, f x x = true) → sameW f l l = true
  | [], _ => rfl
  | a :: t, h => by
    unfold sameW
    rw [h a List.mem_cons_self, sameW_refl t fun x hx => h x (List.mem_cons_of_mem _ hx)]
    rfl
theorem same_refl : ∀ (n : Nat) (x : Node), dp n x = true → same n x x = true
  | 0, _, h => by cases h
  | n + 1, x, h => by
    unfold same
    rw [sameW_refl x.kids fun y hy => same_refl n y ((dp_iff.1 h).2 y hy)]
    simp
theorem sameW_eq {f : Node → Node → Bool} (hf : ∀ x y, f x y = true → x = y) : ∀ (l m : List Node), sameW f l m = true → l = m
  | [], [], _ => rfl
  | a :: s, b :: t, h => by
    unfold sameW at h
    rw [Bool.and_eq_true] at h
    rw [hf a b h.1, sameW_eq hf s t h.2]
  | [], _ :: _, h => by cases h
  | _ :: _, [], h => by cases h
theorem same_eq : ∀ (n : Nat) (x y : Node), same n x y = true → x = y
  | 0, _, _, h => by cases h
  | n + 1, x, y, h => by
    unfold same at h
    simp only [Bool.and_eq_true, beq_iff_eq] at h
    obtain ⟨h1, h2, h3, h4⟩ := h
    have h5 := sameW_eq (fun a b => same_eq n a b) _ _ h4
    cases x; cases y
    simp only at h1 h2 h3 h5
    subst h1; subst h2; subst h3; subst h5; rfl
theorem getV_none {a : Node} {k : List UInt8} (h : getB a k = false) : getV a k = zn := by
  unfold getB at h
  unfold getV
  cases hg : get a k with
  | none => rfl
  | some x => rw [hg] at h; cases h
theorem lk_key : ∀ {keys : List (List UInt8)} {kids : List Node} {k : List UInt8} {x : Node}, lk keys kids k = some x → k ∈ keys
  | a :: t, v :: w, k, x, h => by
    unfold lk at h
    split at h
    · rename_i e; subst e; exact List.mem_cons_self
    · exact List.mem_cons_of_mem _ (lk_key h)
  | [], _, _, _, h => by cases h
  | _ :: _, [], _, _, h => by cases h
theorem getB_key {a : Node} {k : List UInt8} (h : getB a k = true) : k ∈ a.keys := by
  unfold getB at h
  cases hg : get a k with
  | none => rw [hg] at h; cases h
  | some x =>
    unfold get at hg
    split at hg
    · exact lk_key hg
    · cases hg
theorem both_getB {B n : Nat} {a b : Node} (ha : wf B (n + 1) a = true) (hb : wf B (n + 1) b = true) (h3 : a.kind = 3) (h3' : b.kind = 3) {k : List UInt8} (hk : k ∈ both a.keys b.keys) : getB a k = true ∨ getB b k = true :=
  (mem_both hk).imp (getB_of ha h3) (getB_of hb h3')
theorem twoV_dp : ∀ (n : Nat) (a b : Node), okT n a b = true → dp n (twoV n a b) = true
  | 0, _, _, h => by cases h
  | n + 1, a, b, h => by
    simp only [okT, Bool.and_eq_true] at h
    have ha := wf_iff.1 h.1
    have hb := wf_iff.1 h.2
    unfold twoV
    cases hp : pairsV a b with
    | false => exact wf_dp (by decide) h.2
    | true =>
      obtain ⟨h3, h3'⟩ := pairsV_iff.1 hp
      have hl := both_len a.keys b.keys
      rw [cond_true]
      refine dp_iff.2 ⟨⟨by simp only; omega, by simp only [List.length_map]; omega⟩, fun y hy => ?_⟩
      obtain ⟨k, hk, rfl⟩ := List.mem_map.1 hy
      have hor := both_getB h.1 h.2 h3 h3' hk
      unfold pick
      cases gb : getB b k with
      | false =>
        have ga : getB a k = true := hor.resolve_right (by rw [gb]; decide)
        exact wf_dp (by decide) (wf_get h.1 ga)
      | true =>
        rw [cond_true]
        cases hc : getB a k && !(k == ext) with
        | false => exact wf_dp (by decide) (wf_get h.2 gb)
        | true =>
          rw [Bool.and_eq_true] at hc
          exact twoV_dp n _ _ (by simp only [okT, wf_get h.1 hc.1, wf_get h.2 gb, Bool.and_self])
theorem sortN_dp : ∀ (n : Nat) (x : Node), wf 200 n x = true → dp n (sortN n x) = true
  | 0, _, h => by cases h
  | n + 1, x, h => by
    have hw := wf_iff.1 h
    unfold sortN
    by_cases h3 : x.kind = 3
    · rw [eqT h3, cond_true]
      have hs := Pl.sortD_len x.keys
      refine dp_iff.2 ⟨⟨by simp only; omega, by simp only [List.length_map]; omega⟩, fun y hy => ?_⟩
      obtain ⟨k, hk, rfl⟩ := List.mem_map.1 hy
      exact sortN_dp n _ (wf_get h (getB_of h h3 (Pl.sortD_mem.1 hk)))
    · rw [eqF h3, cond_false]
      refine dp_iff.2 ⟨⟨by simp, by simp only [List.length_map]; omega⟩, fun y hy => ?_⟩
      obtain ⟨k, hk, rfl⟩ := List.mem_map.1 hy
      exact sortN_dp n _ (hw.2.2.2.2.2 _ hk)
theorem chgL_self : ∀ (n : Nat) (p : List UInt8) (a : Node), n ≤ 12 → wf 200 n a = true → chgL n p a a = []
  | 0, _, _, _, h => by cases h
  | n + 1, p, a, hn, h => by
    unfold chgL
    cases hp : pairsV a a with
    | false =>
      rw [cond_false, same_refl 12 a (wf_dp12 (by decide) hn h)]
      rfl
    | true =>
      obtain ⟨h3, _⟩ := pairsV_iff.1 hp
      rw [cond_true, List.flatMap_eq_nil_iff]
      intro k hk
      have ga : getB a k = true := (both_getB h h h3 h3 hk).elim id id
      simp only [stepC, beq_self_eq_true, cond_true]
      exact chgL_self n _ _ (by omega) (wf_get h ga)
/-- Maps have no text. -/
def tidy : Nat → Node → Prop
  | 0, _ => True
  | n + 1, x => (x.kind = 3 → x.text = []) ∧ ∀ y ∈ x.kids, tidy n y
theorem chgL_nil : ∀ (n : Nat) (p : List UInt8) (a b : Node), wf 200 n a = true → wf 200 n b = true → tidy n a → tidy n b → chgL n p a b = [] → sortN n a = sortN n b
  | 0, _, _, _, h, _, _, _, _ => by cases h
  | n + 1, p, a, b, ha, hb, ta, tb, h => by
    unfold chgL at h
    cases hp : pairsV a b with
    | false =>
      rw [hp, cond_false] at h
      cases hs : same 12 a b with
      | false => rw [hs] at h; cases h
      | true => rw [same_eq _ _ _ hs]
    | true =>
      rw [hp, cond_true, List.flatMap_eq_nil_iff] at h
      obtain ⟨h3, h3'⟩ := pairsV_iff.1 hp
      have key : ∀ k, k ∈ both a.keys b.keys → (getB a k = true ∧ getB b k = true) ∧ ∃ q, chgL n q (getV a k) (getV b k) = [] := fun k hk => by
        have hh := h k hk
        have hor := both_getB ha hb h3 h3' hk
        unfold stepC at hh
        cases hg : getB a k == getB b k with
        | false => rw [hg] at hh; cases hh
        | true =>
          rw [hg, cond_true] at hh
          have hg' : getB a k = getB b k := by simpa using hg
          have ga : getB a k = true := hor.elim id (fun h => hg'.trans h)
          exact ⟨⟨ga, hg' ▸ ga⟩, _, hh⟩
      have inA : ∀ k, k ∈ a.keys → k ∈ both a.keys b.keys := fun k hk => Pl.sortD_mem.2 (List.mem_append_left _ hk)
      have inB : ∀ k, k ∈ b.keys → k ∈ both a.keys b.keys := fun k hk => Pl.sortD_mem.2 (List.mem_append_right _ hk)
      have hkeys : Pl.sortD a.keys = Pl.sortD b.keys := Pl.sortD_eq (Pl.sortD_spec b.keys).1 fun k => by
        rw [Pl.sortD_mem]
        exact ⟨fun hk => getB_key (key k (inB k hk)).1.1, fun hk => getB_key (key k (inA k hk)).1.2⟩
      unfold sortN
      rw [eqT h3, eqT h3', cond_true, cond_true, h3, h3', ta.1 h3, tb.1 h3', ← hkeys]
      congr 1
      refine List.map_congr_left fun k hk => ?_
      obtain ⟨⟨ga, gb⟩, q, hq⟩ := key k (inA k (Pl.sortD_mem.1 hk))
      exact chgL_nil n q _ _ (wf_get ha ga) (wf_get hb gb) (ta.2 _ (getV_mem ga)) (tb.2 _ (getV_mem gb)) hq
/-! How many nodes there are -/
def cnt : Nat → Node → Nat
  | 0, _ => 0
  | n + 1, x => 1 + (x.kids.map (cnt n)).sum
theorem kidsV_cnt {n : Nat} {g : Node → Int → Int} (hg : ∀ k l, 0 ≤ g k l → g k l + cnt n k ≤ l ∧ tidy n k) : ∀ (ks : List Node) (l : Int), 0 ≤ kidsV g ks l → kidsV g ks l + ((ks.map (cnt n)).sum : Nat) ≤ l ∧ ∀ k ∈ ks, tidy n k
  | [], l, _ => ⟨by simp [kidsV], fun k hk => by cases hk⟩
  | k :: t, l, h => by
    unfold kidsV at h ⊢
    by_cases hk : g k l < 0
    · rw [dT hk, cond_true] at h
      omega
    · rw [dF hk, cond_false] at h ⊢
      obtain ⟨h1, h2⟩ := kidsV_cnt hg t (g k l) h
      obtain ⟨h3, h4⟩ := hg k l (by omega)
      refine ⟨by rw [List.map_cons, List.sum_cons]; omega, fun y hy => ?_⟩
      rcases List.mem_cons.1 hy with rfl | hy
      · exact h4
      · exact h2 y hy
theorem leftV_cnt : ∀ (n : Nat) (x : Node) (d l : Int), 0 ≤ leftV n x d l → leftV n x d l + cnt n x ≤ l ∧ tidy n x
  | 0, _, _, _, h => by simp [leftV] at h
  | n + 1, x, d, l, h => by
    unfold leftV at h ⊢
    cases h1 : badA x d (l - 1) with
    | true => rw [h1, cond_true] at h; omega
    | false =>
      cases h2 : badB x with
      | true => rw [h1, h2, cond_false, cond_true] at h; omega
      | false =>
        cases h3 : badC x (l - 1) with
        | true => rw [h1, h2, h3, cond_false, cond_false, cond_true] at h; omega
        | false =>
          rw [h1, h2, h3, cond_false, cond_false, cond_false] at h
          simp only [cond_false]
          obtain ⟨h4, h5⟩ := kidsV_cnt (fun k l h => leftV_cnt n k (d + 1) l h) x.kids (l - 1) h
          refine ⟨by unfold cnt; omega, fun e => ?_, h5⟩
          unfold badB at h2
          rw [neT (show x.kind ≠ 1 by omega), cond_true] at h2
          by_cases a1 : (0 : Int) < (x.text.length : Int)
          · rw [dT a1] at h2; cases h2
          · exact List.eq_nil_of_length_eq_zero (by omega)
theorem tidy_pred : ∀ (n : Nat) (x : Node), tidy (n + 1) x → tidy n x
  | 0, _, _ => trivial
  | n + 1, x, h => ⟨h.1, fun y hy => tidy_pred n y (h.2 y hy)⟩
theorem small_more {x : Node} (h : smallV x 200 = true) : cnt 13 x ≤ 200 ∧ tidy 12 x := by
  unfold smallV at h
  by_cases h0 : 0 ≤ leftV 13 x 1 200
  · have := leftV_cnt 13 x 1 200 h0
    exact ⟨by omega, tidy_pred 12 x this.2⟩
  · rw [dF h0] at h; cases h
/-- The sum of what is found under distinct keys is at most the sum over the row. -/
theorem sum_if {k0 : List UInt8} {c : Nat} {g : List UInt8 → Nat} : ∀ (ks : List (List UInt8)), Pl.SS ks → (ks.map fun k => if k = k0 then c else g k).sum ≤ c + (ks.map g).sum
  | [], _ => by simp
  | k :: t, h => by
    have h' := List.pairwise_cons.1 h
    simp only [List.map_cons, List.sum_cons]
    by_cases e : k = k0
    · have : (t.map fun k => if k = k0 then c else g k) = t.map g := List.map_congr_left fun q hq => by
        have hlt := h'.1 q hq
        rw [if_neg]
        intro e2
        rw [e2, ← e] at hlt
        exact Pl.s_irrefl k hlt
      rw [this, if_pos e]
      omega
    · rw [if_neg e]
      have := sum_if (k0 := k0) (c := c) (g := g) t h'.2
      omega
def lc (f : Node → Nat) (o : Option Node) : Nat := match o with
  | some x => f x
  | none => 0
theorem sum_zero {α : Type} : ∀ (ks : List α), (ks.map fun _ => 0).sum = 0
  | [] => rfl
  | _ :: t => by rw [List.map_cons, List.sum_cons, sum_zero t]
theorem sum_lk (f : Node → Nat) : ∀ (keys : List (List UInt8)) (kids : List Node) (ks : List (List UInt8)), Pl.SS ks → (ks.map fun k => lc f (lk keys kids k)).sum ≤ (kids.map f).sum
  | a :: t, v :: w, ks, h => by
    have e : (ks.map fun k => lc f (lk (a :: t) (v :: w) k)) = ks.map fun k => if k = a then f v else lc f (lk t w k) := List.map_congr_left fun k _ => by
      simp only [lk]
      split <;> rfl
    rw [e, List.map_cons, List.sum_cons]
    have h1 := sum_if (k0 := a) (c := f v) (g := fun k => lc f (lk t w k)) ks h
    have h2 := sum_lk f t w ks h
    omega
  | [], kids, ks, _ => by
    have e : (ks.map fun k => lc f (lk [] kids k)) = ks.map fun _ => 0 := List.map_congr_left fun k _ => rfl
    rw [e, sum_zero]
    exact Nat.zero_le _
  | a :: t, [], ks, _ => by
    have e : (ks.map fun k => lc f (lk (a :: t) [] k)) = ks.map fun _ => 0 := List.map_congr_left fun k _ => rfl
    rw [e, sum_zero]
    exact Nat.zero_le _
theorem len_flatMap (f : List UInt8 → List (List UInt8)) (g h : List UInt8 → Nat) : ∀ (ks : List (List UInt8)), (∀ k ∈ ks, (f k).length ≤ g k + h k) → (ks.flatMap f).length ≤ (ks.map g).sum + (ks.map h).sum
  | [], _ => by simp
  | k :: t, hk => by
    have h1 := hk k List.mem_cons_self
    have h2 := len_flatMap f g h t fun q hq => hk q (List.mem_cons_of_mem _ hq)
    rw [List.flatMap_cons, List.length_append, List.map_cons, List.map_cons, List.sum_cons, List.sum_cons]
    omega
theorem lc_get {f : Node → Nat} {a : Node} {k : List UInt8} (h : getB a k = true) (h3 : a.kind = 3) : lc f (lk a.keys a.kids k) = f (getV a k) := by
  unfold getB at h
  unfold getV
  have e : get a k = lk a.keys a.kids k := if_pos h3
  rw [e] at h ⊢
  cases hg : lk a.keys a.kids k with
  | none => rw [hg] at h; cases h
  | some x => rfl
theorem cnt_pos (n : Nat) (x : Node) : 1 ≤ cnt (n + 1) x := by unfold cnt; omega
theorem chgL_len : ∀ (n : Nat) (p : List UInt8) (a b : Node), wf 200 n a = true → wf 200 n b = true → (chgL n p a b).length ≤ cnt (n + 1) a + cnt (n + 1) b
  | 0, _, _, _, h, _ => by cases h
  | n + 1, p, a, b, ha, hb => by
    unfold chgL
    cases hp : pairsV a b with
    | false =>
      rw [cond_false]
      have := cnt_pos (n + 1) a
      cases same 12 a b <;> simp only [cond_true, cond_false, List.length_nil, List.length_singleton] <;> omega
    | true =>
      rw [cond_true]
      obtain ⟨h3, h3'⟩ := pairsV_iff.1 hp
      have hss : Pl.SS (both a.keys b.keys) := (Pl.sortD_spec (a.keys ++ b.keys)).1
      have h1 := sum_lk (cnt (n + 1)) a.keys a.kids _ hss
      have h2 := sum_lk (cnt (n + 1)) b.keys b.kids _ hss
      have hl := len_flatMap (stepC (chgL n) (pre p) a b) (fun k => lc (cnt (n + 1)) (lk a.keys a.kids k)) (fun k => lc (cnt (n + 1)) (lk b.keys b.kids k)) (both a.keys b.keys) fun k hk => by
        have hor := both_getB ha hb h3 h3' hk
        unfold stepC
        cases hg : getB a k == getB b k with
        | false =>
          rw [cond_false, List.length_singleton]
          rcases hor with h | h
          · have := cnt_pos n (getV a k)
            rw [lc_get h h3]; omega
          · have := cnt_pos n (getV b k)
            rw [lc_get h h3']; omega
        | true =>
          rw [cond_true]
          have hg' : getB a k = getB b k := by simpa using hg
          have ga : getB a k = true := hor.elim id (fun h => hg'.trans h)
          have gb : getB b k = true := hg' ▸ ga
          rw [lc_get ga h3, lc_get gb h3']
          exact chgL_len n _ _ _ (wf_get ha ga) (wf_get hb gb)
      have e : ∀ x : Node, cnt (n + 1 + 1) x = 1 + (x.kids.map (cnt (n + 1))).sum := fun _ => rfl
      rw [e, e]
      omega
theorem okC_small {a b : Node} (ha : smallV a 200 = true) (hb : smallV b 200 = true) : okC 12 [] [] a b = true := okC_iff.2 ⟨⟨⟨⟨Nat.le_refl _, small_wf ha⟩, small_wf hb⟩, Nat.zero_le _⟩, by
  have h1 : (chgL 12 [] a b).length ≤ cnt 13 a + cnt 13 b := chgL_len 12 [] a b (small_wf ha) (small_wf hb)
  have h2 := (small_more ha).1
  have h3 := (small_more hb).1
  rw [List.nil_append]
  omega⟩
def oneV (k : List UInt8) (x : Node) : Node := ⟨3, [], [k], [x]⟩
noncomputable def one_W : FnW E := fn2 (E := E) .str .api_Node .api_Node (fun _ _ => true) oneV
def one_id : FuncId := 15
noncomputable def one_O : Oracle E := orac [] [] [] []
noncomputable def one_H : Hint E := Hint.mk [] [] []
noncomputable def one_t (_G : Nat → ASt E → Option (List (TV E))) (x0 : List UInt8) (x1 : Node) : Option (List (TV E)) :=
  some [⟨.api_Node, (⟨(3 : Int), ([] : List UInt8), ([x0] : List (List UInt8)), ([(⟨x1.kind, x1.text, x1.keys, x1.kids⟩ : Node)] : List Node)⟩ : Node)⟩]
theorem one_e (G : Nat → ASt E → Option (List (TV E))) (x0 : List UInt8) (x1 : Node) : runE one_O one_H G Try.f15 [⟨.str, x0⟩, ⟨.api_Node, x1⟩] = one_t G x0 x1 := by kernel_rfl
theorem one_f : Try.prog.funcs[15]? = some Try.f15 := by kernel_rfl
theorem one_n : (Try.f15.name == "runtime.NumGoroutine") = false := by kernel_rfl
theorem one_b : Try.f15.body.isNone = false := by kernel_rfl
theorem one_ex : ∃ fn, Try.prog.funcs[15]? = some fn ∧ (fn.name == "runtime.NumGoroutine") = false ∧ fn.body.isNone = false := ⟨Try.f15, one_f, one_n, one_b⟩
theorem one_hO : OracleOk E one_O := orac_ok .nil .nil .nil .nil
theorem one_ok_of (h : ∀ (x0 : List UInt8) (x1 : Node), one_t (Gr E Try.f15 [⟨.api_Node, oneV x0 x1⟩]) x0 x1 = some [⟨.api_Node, oneV x0 x1⟩]) : FnOk E one_id one_W := fn2_ok one_hO mix one_f one_n one_b (fun x0 x1 _ => (one_e _ x0 x1).trans (h x0 x1))
theorem one_ok : FnOk E one_id one_W := one_ok_of fun k x => by
  simp only [one_t, node_eta]
  rfl
/-! The closed values of the law's own example -/
def exX : Node := ⟨1, [49], [], []⟩
def exY : Node := ⟨1, [50], [], []⟩
def exA : Node := oneV [97] (oneV [120] exX)
def exB : Node := oneV [97] (oneV [121] exY)
theorem both1 : both [[97]] [[97]] = [[97]] := Pl.sortD_eq (by simp [Pl.SS]) fun x => by simp
theorem both2 : both [[120]] [[121]] = [[120], [121]] := Pl.sortD_eq (by unfold Pl.SS; decide) fun x => by simp
theorem two1 (n : Nat) : twoV (n + 1) exA exB = ⟨3, [], [[97]], [twoV n (oneV [120] exX) (oneV [121] exY)]⟩ := by
  show (bif pairsV exA exB then (⟨3, [], both exA.keys exB.keys, (both exA.keys exB.keys).map (pick (twoV n) exA exB)⟩ : Node) else exB) = _
  rw [show pairsV exA exB = true from rfl, cond_true, show both exA.keys exB.keys = [[97]] from both1]
  rfl
theorem two2 (n : Nat) : (twoV (n + 1) (oneV [120] exX) (oneV [121] exY)).keys = [[120], [121]] := by
  unfold twoV
  rw [show pairsV (oneV [120] exX) (oneV [121] exY) = true from rfl, cond_true]
  exact both2
theorem chXY : chgL 12 [] exX exY = [[]] := rfl
noncomputable def awake_W : FnW E := fn0 (E := E) .bool true true
def awake_id : FuncId := 5
noncomputable def awake_O : Oracle E := orac [(10, changed_W), (7, two_W 12), (15, one_W)] [] [] []
noncomputable def awake_H : Hint E := Hint.mk [] [] []
noncomputable def awake_t (_G : Nat → ASt E → Option (List (TV E)))  : Option (List (TV E)) :=
  bif ((okT 12) (oneV ([97] : List UInt8) (oneV ([120] : List UInt8) (⟨(1 : Int), ([49] : List UInt8), ([] : List (List UInt8)), ([] : List Node)⟩ : Node))) (oneV ([97] : List UInt8) (oneV ([121] : List UInt8) (⟨(1 : Int), ([50] : List UInt8), ([] : List (List UInt8)), ([] : List Node)⟩ : Node)))) then (bif ((decide ((0 : Int) ≤ (0 : Int)) && decide ((0 : Int) < ((((twoV 12) (oneV ([97] : List UInt8) (oneV ([120] : List UInt8) (⟨(1 : Int), ([49] : List UInt8), ([] : List (List UInt8)), ([] : List Node)⟩ : Node))) (oneV ([97] : List UInt8) (oneV ([121] : List UInt8) (⟨(1 : Int), ([50] : List UInt8), ([] : List (List UInt8)), ([] : List Node)⟩ : Node)))).kids).length : Int))) || !(((((twoV 12) (oneV ([97] : List UInt8) (oneV ([120] : List UInt8) (⟨(1 : Int), ([49] : List UInt8), ([] : List (List UInt8)), ([] : List Node)⟩ : Node))) (oneV ([97] : List UInt8) (oneV ([121] : List UInt8) (⟨(1 : Int), ([50] : List UInt8), ([] : List (List UInt8)), ([] : List Node)⟩ : Node)))).keys).length : Int) == (1 : Int))) then (bif ((okCh (⟨(1 : Int), ([49] : List UInt8), ([] : List (List UInt8)), ([] : List Node)⟩ : Node) (⟨(1 : Int), ([50] : List UInt8), ([] : List (List UInt8)), ([] : List Node)⟩ : Node)) || !(bif (((((twoV 12) (oneV ([97] : List UInt8) (oneV ([120] : List UInt8) (⟨(1 : Int), ([49] : List UInt8), ([] : List (List UInt8)), ([] : List Node)⟩ : Node))) (oneV ([97] : List UInt8) (oneV ([121] : List UInt8) (⟨(1 : Int), ([50] : List UInt8), ([] : List (List UInt8)), ([] : List Node)⟩ : Node)))).keys).length : Int) == (1 : Int)) then ((((List.getD (((twoV 12) (oneV ([97] : List UInt8) (oneV ([120] : List UInt8) (⟨(1 : Int), ([49] : List UInt8), ([] : List (List UInt8)), ([] : List Node)⟩ : Node))) (oneV ([97] : List UInt8) (oneV ([121] : List UInt8) (⟨(1 : Int), ([50] : List UInt8), ([] : List (List UInt8)), ([] : List Node)⟩ : Node)))).kids) (Int.toNat (0 : Int)) (dflt .api_Node)).keys).length : Int) == (2 : Int)) else false)) then some [⟨.bool, (bif (bif (((((twoV 12) (oneV ([97] : List UInt8) (oneV ([120] : List UInt8) (⟨(1 : Int), ([49] : List UInt8), ([] : List (List UInt8)), ([] : List Node)⟩ : Node))) (oneV ([97] : List UInt8) (oneV ([121] : List UInt8) (⟨(1 : Int), ([50] : List UInt8), ([] : List (List UInt8)), ([] : List Node)⟩ : Node)))).keys).length : Int) == (1 : Int)) then ((((List.getD (((twoV 12) (oneV ([97] : List UInt8) (oneV ([120] : List UInt8) (⟨(1 : Int), ([49] : List UInt8), ([] : List (List UInt8)), ([] : List Node)⟩ : Node))) (oneV ([97] : List UInt8) (oneV ([121] : List UInt8) (⟨(1 : Int), ([50] : List UInt8), ([] : List (List UInt8)), ([] : List Node)⟩ : Node)))).kids) (Int.toNat (0 : Int)) (dflt .api_Node)).keys).length : Int) == (2 : Int)) else false) then (((changedV (⟨(1 : Int), ([49] : List UInt8), ([] : List (List UInt8)), ([] : List Node)⟩ : Node) (⟨(1 : Int), ([50] : List UInt8), ([] : List (List UInt8)), ([] : List Node)⟩ : Node)).length : Int) == (1 : Int)) else false)⟩] else none) else none) else none
theorem awake_e (G : Nat → ASt E → Option (List (TV E)))  : runE awake_O awake_H G Try.f5 [] = awake_t G  := by kernel_rfl
theorem awake_f : Try.prog.funcs[5]? = some Try.f5 := by kernel_rfl
theorem awake_n : (Try.f5.name == "runtime.NumGoroutine") = false := by kernel_rfl
theorem awake_b : Try.f5.body.isNone = false := by kernel_rfl
theorem awake_ex : ∃ fn, Try.prog.funcs[5]? = some fn ∧ (fn.name == "runtime.NumGoroutine") = false ∧ fn.body.isNone = false := ⟨Try.f5, awake_f, awake_n, awake_b⟩
theorem awake_hO : OracleOk E awake_O := orac_ok (.cons changed_ok (.cons (two_ok 12) (.cons one_ok .nil))) .nil .nil .nil
theorem awake_ok_of (h : awake_t (Gr E Try.f5 [⟨.bool, true ⟩])  = some [⟨.bool, true ⟩]) : FnOk E awake_id awake_W := fn0_ok awake_hO mix awake_f awake_n awake_b (fun _ => (awake_e _).trans h)
theorem awake_ok : FnOk E awake_id awake_W := awake_ok_of <| by
  have t1 : twoV 12 exA exB = ⟨3, [], [[97]], [twoV 11 (oneV [120] exX) (oneV [121] exY)]⟩ := two1 11
  have t2 : (twoV 11 (oneV [120] exX) (oneV [121] exY)).keys = [[120], [121]] := two2 10
  have h1 : okT 12 exA exB = true := rfl
  have h2 : okCh exX exY = true := okC_iff.2 ⟨⟨⟨⟨by decide, rfl⟩, rfl⟩, by decide⟩, by rw [chXY]; decide⟩
  have h3 : changedV exX exY = [[]] := chXY
  change awake_t _ = _
  unfold awake_t
  change (bif okT 12 exA exB then (bif (decide ((0 : Int) ≤ 0) && decide ((0 : Int) < (((twoV 12 exA exB).kids).length : Int))) || !((((twoV 12 exA exB).keys).length : Int) == 1) then (bif okCh exX exY || !(bif (((twoV 12 exA exB).keys).length : Int) == 1 then (((List.getD (twoV 12 exA exB).kids (Int.toNat 0) (dflt .api_Node)).keys).length : Int) == 2 else false) then some [(⟨.bool, (bif (bif (((twoV 12 exA exB).keys).length : Int) == 1 then (((List.getD (twoV 12 exA exB).kids (Int.toNat 0) (dflt .api_Node)).keys).length : Int) == 2 else false) then (((changedV exX exY).length : Int) == 1) else false)⟩ : TV E)] else none) else none) else none) = _
  rw [h1, h2, h3, t1]
  simp only [cond_true, Bool.true_or, List.getD, List.length_singleton, Int.toNat_zero, List.getElem?_cons_zero, Option.getD_some, t2]
  rfl
noncomputable def law_W : FnW E := fn2 (E := E) .api_Node .api_Node .bool (fun _ _ => true) (fun _ _ => true)
def law_id : FuncId := 3
noncomputable def law_O : Oracle E := orac [(10, changed_W), (7, two_W 12), (5, awake_W), (9, rsame_W), (6, rnsame_W 12), (4, small_W), (12, rnsorted_W 12), (11, rchg_W 12), (8, rtwo_W 12)] [] [] []
noncomputable def law_H : Hint E := Hint.mk [] [] []
noncomputable def law_t (_G : Nat → ASt E → Option (List (TV E))) (x0 : Node) (x1 : Node) : Option (List (TV E)) :=
  bif (okSm (⟨x0.kind, x0.text, x0.keys, x0.kids⟩ : Node) (200 : Int)) then (bif ((okSm (⟨x1.kind, x1.text, x1.keys, x1.kids⟩ : Node) (200 : Int)) || !(!(!(smallV (⟨x0.kind, x0.text, x0.keys, x0.kids⟩ : Node) (200 : Int))))) then (bif (bif (!(smallV (⟨x0.kind, x0.text, x0.keys, x0.kids⟩ : Node) (200 : Int))) then true else (!(smallV (⟨x1.kind, x1.text, x1.keys, x1.kids⟩ : Node) (200 : Int)))) then some [⟨.bool, true⟩] else (bif ((okT 12) (⟨x0.kind, x0.text, x0.keys, x0.kids⟩ : Node) (⟨x1.kind, x1.text, x1.keys, x1.kids⟩ : Node)) then (bif ((okT 12) (⟨x0.kind, x0.text, x0.keys, x0.kids⟩ : Node) (⟨x1.kind, x1.text, x1.keys, x1.kids⟩ : Node)) then (bif ((okS 12) ((twoV 12) (⟨x0.kind, x0.text, x0.keys, x0.kids⟩ : Node) (⟨x1.kind, x1.text, x1.keys, x1.kids⟩ : Node)) ((twoV 12) (⟨x0.kind, x0.text, x0.keys, x0.kids⟩ : Node) (⟨x1.kind, x1.text, x1.keys, x1.kids⟩ : Node))) then (bif ((okCh (⟨x0.kind, x0.text, x0.keys, x0.kids⟩ : Node) (⟨x1.kind, x1.text, x1.keys, x1.kids⟩ : Node)) || !((same 12) ((twoV 12) (⟨x0.kind, x0.text, x0.keys, x0.kids⟩ : Node) (⟨x1.kind, x1.text, x1.keys, x1.kids⟩ : Node)) ((twoV 12) (⟨x0.kind, x0.text, x0.keys, x0.kids⟩ : Node) (⟨x1.kind, x1.text, x1.keys, x1.kids⟩ : Node)))) then (bif (((okR 12) (⟨x0.kind, x0.text, x0.keys, x0.kids⟩ : Node) (⟨x1.kind, x1.text, x1.keys, x1.kids⟩ : Node) ([] : List UInt8)) || !((same 12) ((twoV 12) (⟨x0.kind, x0.text, x0.keys, x0.kids⟩ : Node) (⟨x1.kind, x1.text, x1.keys, x1.kids⟩ : Node)) ((twoV 12) (⟨x0.kind, x0.text, x0.keys, x0.kids⟩ : Node) (⟨x1.kind, x1.text, x1.keys, x1.kids⟩ : Node)))) then (bif (((fun a _ => ln6 a) (changedV (⟨x0.kind, x0.text, x0.keys, x0.kids⟩ : Node) (⟨x1.kind, x1.text, x1.keys, x1.kids⟩ : Node)) ((rchgV 12) (⟨x0.kind, x0.text, x0.keys, x0.kids⟩ : Node) (⟨x1.kind, x1.text, x1.keys, x1.kids⟩ : Node) ([] : List UInt8))) || !((same 12) ((twoV 12) (⟨x0.kind, x0.text, x0.keys, x0.kids⟩ : Node) (⟨x1.kind, x1.text, x1.keys, x1.kids⟩ : Node)) ((twoV 12) (⟨x0.kind, x0.text, x0.keys, x0.kids⟩ : Node) (⟨x1.kind, x1.text, x1.keys, x1.kids⟩ : Node)))) then (bif ((okCh (⟨x0.kind, x0.text, x0.keys, x0.kids⟩ : Node) (⟨x1.kind, x1.text, x1.keys, x1.kids⟩ : Node)) || !(bif ((same 12) ((twoV 12) (⟨x0.kind, x0.text, x0.keys, x0.kids⟩ : Node) (⟨x1.kind, x1.text, x1.keys, x1.kids⟩ : Node)) ((twoV 12) (⟨x0.kind, x0.text, x0.keys, x0.kids⟩ : Node) (⟨x1.kind, x1.text, x1.keys, x1.kids⟩ : Node))) then (equal (changedV (⟨x0.kind, x0.text, x0.keys, x0.kids⟩ : Node) (⟨x1.kind, x1.text, x1.keys, x1.kids⟩ : Node)) ((rchgV 12) (⟨x0.kind, x0.text, x0.keys, x0.kids⟩ : Node) (⟨x1.kind, x1.text, x1.keys, x1.kids⟩ : Node) ([] : List UInt8))) else false)) then (bif (((wf 200 12) (⟨x0.kind, x0.text, x0.keys, x0.kids⟩ : Node)) || !((bif ((same 12) ((twoV 12) (⟨x0.kind, x0.text, x0.keys, x0.kids⟩ : Node) (⟨x1.kind, x1.text, x1.keys, x1.kids⟩ : Node)) ((twoV 12) (⟨x0.kind, x0.text, x0.keys, x0.kids⟩ : Node) (⟨x1.kind, x1.text, x1.keys, x1.kids⟩ : Node))) then (equal (changedV (⟨x0.kind, x0.text, x0.keys, x0.kids⟩ : Node) (⟨x1.kind, x1.text, x1.keys, x1.kids⟩ : Node)) ((rchgV 12) (⟨x0.kind, x0.text, x0.keys, x0.kids⟩ : Node) (⟨x1.kind, x1.text, x1.keys, x1.kids⟩ : Node) ([] : List UInt8))) else false) && (!(decide ((0 : Int) < ((changedV (⟨x0.kind, x0.text, x0.keys, x0.kids⟩ : Node) (⟨x1.kind, x1.text, x1.keys, x1.kids⟩ : Node)).length : Int)))))) then (bif (((wf 200 12) (⟨x1.kind, x1.text, x1.keys, x1.kids⟩ : Node)) || !((bif ((same 12) ((twoV 12) (⟨x0.kind, x0.text, x0.keys, x0.kids⟩ : Node) (⟨x1.kind, x1.text, x1.keys, x1.kids⟩ : Node)) ((twoV 12) (⟨x0.kind, x0.text, x0.keys, x0.kids⟩ : Node) (⟨x1.kind, x1.text, x1.keys, x1.kids⟩ : Node))) then (equal (changedV (⟨x0.kind, x0.text, x0.keys, x0.kids⟩ : Node) (⟨x1.kind, x1.text, x1.keys, x1.kids⟩ : Node)) ((rchgV 12) (⟨x0.kind, x0.text, x0.keys, x0.kids⟩ : Node) (⟨x1.kind, x1.text, x1.keys, x1.kids⟩ : Node) ([] : List UInt8))) else false) && (!(decide ((0 : Int) < ((changedV (⟨x0.kind, x0.text, x0.keys, x0.kids⟩ : Node) (⟨x1.kind, x1.text, x1.keys, x1.kids⟩ : Node)).length : Int)))))) then (bif (((okS 12) ((sortN 12) (⟨x0.kind, x0.text, x0.keys, x0.kids⟩ : Node)) ((sortN 12) (⟨x1.kind, x1.text, x1.keys, x1.kids⟩ : Node))) || !((bif ((same 12) ((twoV 12) (⟨x0.kind, x0.text, x0.keys, x0.kids⟩ : Node) (⟨x1.kind, x1.text, x1.keys, x1.kids⟩ : Node)) ((twoV 12) (⟨x0.kind, x0.text, x0.keys, x0.kids⟩ : Node) (⟨x1.kind, x1.text, x1.keys, x1.kids⟩ : Node))) then (equal (changedV (⟨x0.kind, x0.text, x0.keys, x0.kids⟩ : Node) (⟨x1.kind, x1.text, x1.keys, x1.kids⟩ : Node)) ((rchgV 12) (⟨x0.kind, x0.text, x0.keys, x0.kids⟩ : Node) (⟨x1.kind, x1.text, x1.keys, x1.kids⟩ : Node) ([] : List UInt8))) else false) && (!(decide ((0 : Int) < ((changedV (⟨x0.kind, x0.text, x0.keys, x0.kids⟩ : Node) (⟨x1.kind, x1.text, x1.keys, x1.kids⟩ : Node)).length : Int)))))) then (bif ((okCh (⟨x0.kind, x0.text, x0.keys, x0.kids⟩ : Node) (⟨x0.kind, x0.text, x0.keys, x0.kids⟩ : Node)) || !(bif (bif ((same 12) ((twoV 12) (⟨x0.kind, x0.text, x0.keys, x0.kids⟩ : Node) (⟨x1.kind, x1.text, x1.keys, x1.kids⟩ : Node)) ((twoV 12) (⟨x0.kind, x0.text, x0.keys, x0.kids⟩ : Node) (⟨x1.kind, x1.text, x1.keys, x1.kids⟩ : Node))) then (equal (changedV (⟨x0.kind, x0.text, x0.keys, x0.kids⟩ : Node) (⟨x1.kind, x1.text, x1.keys, x1.kids⟩ : Node)) ((rchgV 12) (⟨x0.kind, x0.text, x0.keys, x0.kids⟩ : Node) (⟨x1.kind, x1.text, x1.keys, x1.kids⟩ : Node) ([] : List UInt8))) else false) then (bif (decide ((0 : Int) < ((changedV (⟨x0.kind, x0.text, x0.keys, x0.kids⟩ : Node) (⟨x1.kind, x1.text, x1.keys, x1.kids⟩ : Node)).length : Int))) then true else ((same 12) ((sortN 12) (⟨x0.kind, x0.text, x0.keys, x0.kids⟩ : Node)) ((sortN 12) (⟨x1.kind, x1.text, x1.keys, x1.kids⟩ : Node)))) else false)) then some [⟨.bool, (bif (bif (bif (bif ((same 12) ((twoV 12) (⟨x0.kind, x0.text, x0.keys, x0.kids⟩ : Node) (⟨x1.kind, x1.text, x1.keys, x1.kids⟩ : Node)) ((twoV 12) (⟨x0.kind, x0.text, x0.keys, x0.kids⟩ : Node) (⟨x1.kind, x1.text, x1.keys, x1.kids⟩ : Node))) then (equal (changedV (⟨x0.kind, x0.text, x0.keys, x0.kids⟩ : Node) (⟨x1.kind, x1.text, x1.keys, x1.kids⟩ : Node)) ((rchgV 12) (⟨x0.kind, x0.text, x0.keys, x0.kids⟩ : Node) (⟨x1.kind, x1.text, x1.keys, x1.kids⟩ : Node) ([] : List UInt8))) else false) then (bif (decide ((0 : Int) < ((changedV (⟨x0.kind, x0.text, x0.keys, x0.kids⟩ : Node) (⟨x1.kind, x1.text, x1.keys, x1.kids⟩ : Node)).length : Int))) then true else ((same 12) ((sortN 12) (⟨x0.kind, x0.text, x0.keys, x0.kids⟩ : Node)) ((sortN 12) (⟨x1.kind, x1.text, x1.keys, x1.kids⟩ : Node)))) else false) then (((changedV (⟨x0.kind, x0.text, x0.keys, x0.kids⟩ : Node) (⟨x0.kind, x0.text, x0.keys, x0.kids⟩ : Node)).length : Int) == (0 : Int)) else false) then true else false)⟩] else none) else none) else none) else none) else none) else none) else none) else none) else none) else none) else none)) else none) else none
theorem law_e (G : Nat → ASt E → Option (List (TV E))) (x0 : Node) (x1 : Node) : runE law_O law_H G Try.f3 [⟨.api_Node, x0⟩, ⟨.api_Node, x1⟩] = law_t G x0 x1 := by kernel_rfl
theorem law_f : Try.prog.funcs[3]? = some Try.f3 := by kernel_rfl
theorem law_n : (Try.f3.name == "runtime.NumGoroutine") = false := by kernel_rfl
theorem law_b : Try.f3.body.isNone = false := by kernel_rfl
theorem law_ex : ∃ fn, Try.prog.funcs[3]? = some fn ∧ (fn.name == "runtime.NumGoroutine") = false ∧ fn.body.isNone = false := ⟨Try.f3, law_f, law_n, law_b⟩
theorem law_hO : OracleOk E law_O := orac_ok (.cons changed_ok (.cons (two_ok 12) (.cons awake_ok (.cons rsame_ok (.cons (rnsame_ok 12) (.cons small_ok (.cons (rnsorted_ok 12) (.cons (rchg_ok 12) (.cons (rtwo_ok 12) .nil))))))))) .nil .nil .nil
theorem law_ok_of (h : ∀ (x0 : Node) (x1 : Node), law_t (Gr E Try.f3 [⟨.bool, (fun _ _ => true) x0 x1⟩]) x0 x1 = some [⟨.bool, (fun _ _ => true) x0 x1⟩]) : FnOk E law_id law_W := fn2_ok law_hO mix law_f law_n law_b (fun x0 x1 _ => (law_e _ x0 x1).trans (h x0 x1))
theorem law_ok : FnOk E law_id law_W := law_ok_of fun a b => by
  have e0 : ∀ x : Node, okSm x 200 = true := fun _ => rfl
  simp only [law_t, node_eta, e0, Bool.true_or, cond_true]
  cases ha : smallV a 200 with
  | false => rfl
  | true =>
    cases hb : smallV b 200 with
    | false => rfl
    | true =>
      have wa := small_wf ha
      have wb := small_wf hb
      have h1 : okT 12 a b = true := by simp only [okT, wa, wb, Bool.and_self]
      have h2 : okS 12 (twoV 12 a b) (twoV 12 a b) = true := by simp only [okS, twoV_dp 12 a b h1, Bool.and_self]
      have h3 : same 12 (twoV 12 a b) (twoV 12 a b) = true := same_refl 12 _ (twoV_dp 12 a b h1)
      have h4 := okC_small ha hb
      have h4' : okCh a b = true := h4
      have h4'' : okR 12 a b [] = true := h4
      have h5 : ln6 (changedV a b) = true := ln6_iff.2 (okC_iff.1 h4).2
      have h6 : equal (changedV a b) (rchgV 12 a b []) = true := by simp [equal, changedV, rchgV]
      have h8 : okS 12 (sortN 12 a) (sortN 12 b) = true := by simp only [okS, sortN_dp 12 a wa, sortN_dp 12 b wb, Bool.and_self]
      have h9 : okCh a a = true := okC_small ha ha
      have h10 : changedV a a = [] := chgL_self 12 [] a (Nat.le_refl _) wa
      simp only [h1, h2, h3, h4', h4'', h5, h6, h8, h9, h10, wa, wb, Bool.true_or, cond_true, cond_false, Bool.not_true]
      cases hc : changedV a b with
      | nil =>
        have h11 : sortN 12 a = sortN 12 b := chgL_nil 12 [] a b wa wb (small_more ha).2 (small_more hb).2 hc
        have h12 : same 12 (sortN 12 a) (sortN 12 b) = true := by rw [h11]; exact same_refl 12 _ (sortN_dp 12 b wb)
        rw [h12]
        rfl
      | cons c t =>
        rw [dT (show (0 : Int) < ((c :: t).length : Int) by rw [List.length_cons]; omega)]
        rfl
theorem law_true {a b : Node} : law_W [⟨.api_Node, a⟩, ⟨.api_Node, b⟩] = some (true, [⟨.bool, true⟩]) := rfl
end Go.Proofs.Ytnbohemhgbkdlaa.Bl