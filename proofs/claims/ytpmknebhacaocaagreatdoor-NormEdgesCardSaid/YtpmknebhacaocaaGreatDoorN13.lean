/- Plain facts of forms: the program's variables, labels and sets are the reference's; a form's form is itself. -/
import Derived.Test.YtpmknebhacaocaaGreatDoorN9
namespace Go.Proofs.YtpmknebhacaocaaGreatDoor.Rf
open Go Go.RowKit Go.Sort Go.Proofs.YtpmknebhacaocaaGreatDoor.Mir
/-! ### Plain facts: names; the place of '=' -/
theorem v1_bad (c : UInt8) : (!(v1B (Int.ofNat c.toNat))) = badV c true := beq_iff_eq.1 (bytes_all (p := fun n => (!(v1B (Int.ofNat n))) == (bif (bif kindV (Int.ofNat n) == 0 then true else decide (4 < kindV (Int.ofNat n))) then true else (bif true then kindV (Int.ofNat n) == 3 else false))) (by decide +kernel) c)
theorem v2_bad (c : UInt8) : (!(v2B (Int.ofNat c.toNat))) = badV c false := beq_iff_eq.1 (bytes_all (p := fun n => (!(v2B (Int.ofNat n))) == (bif (bif kindV (Int.ofNat n) == 0 then true else decide (4 < kindV (Int.ofNat n))) then true else (bif false then kindV (Int.ofNat n) == 3 else false))) (by decide +kernel) c)
theorem variable_eq (s : List UInt8) : ofV v1B v2B s = nameV badV s := ofV_eq v1_bad v2_bad s
theorem rightV_eq (s : List UInt8) (v : Bool) : rightV v s = keyB s v := by
  cases v
  · exact service_eq s
  · exact variable_eq s
theorem ix_fi : ∀ s : List UInt8, Lib.indexByte s 61 = if fi s < s.length then (fi s : Int) else -1
  | [] => rfl
  | c :: t => by
    unfold Lib.indexByte fi
    have ih := ix_fi t
    by_cases h : c = 61
    · subst h
      simp
    · have h1 : (c == 61) = false := by simpa using h
      have h2 : ((c.toNat : Int) != 61) = true := by
        rw [bne_iff_ne]
        intro e
        exact h (UInt8.toNat_inj.1 (by show c.toNat = 61; omega))
      rw [h1, h2, ih]
      simp only [cond_true, List.length_cons]
      by_cases hl : fi t < t.length
      · have : ((fi t : Int) == -1) = false := by rw [beq_eq_false_iff_ne]; omega
        rw [if_pos hl, if_pos (show fi t + 1 < t.length + 1 by omega), this]
        simp
      · rw [if_neg hl, if_neg (show ¬ fi t + 1 < t.length + 1 by omega)]
        rfl
theorem cutA_fi (s : List UInt8) : cutA s eqS1 = s.take (fi s) := by
  have h := ix_fi s
  unfold cutA ixV
  rw [show eqS1.headD 0 = 61 from rfl, h]
  by_cases hl : fi s < s.length
  · rw [if_pos hl, dT (by omega), cond_true, Int.toNat_natCast]
  · rw [if_neg hl, dF (by omega), cond_false, List.take_of_length_le (by omega)]
theorem cutB_fi (s : List UInt8) : cutB s eqS1 = s.drop (fi s + 1) := by
  have h := ix_fi s
  unfold cutB ixV
  rw [show eqS1.headD 0 = 61 from rfl, h]
  by_cases hl : fi s < s.length
  · rw [if_pos hl, dT (by omega), cond_true, Int.toNat_natCast]
  · rw [if_neg hl, dF (by omega), cond_false, List.drop_eq_nil_of_le (by omega)]
/-! ### A map that is being gathered, on both sides -/
structure Iv (ψ : List UInt8 → Prop) (φ : Node → Prop) (o : Node) : Prop where
  kind : o.kind = 0 ∨ o.kind = 3
  none_ : o.kind = 0 → o.keys = []
  text : o.text = []
  len : o.keys.length = o.kids.length
  nd : o.keys.Nodup
  key : ∀ k ∈ o.keys, ψ k
  kid : ∀ y ∈ o.kids, φ y
section
variable {ψ : List UInt8 → Prop} {φ : Node → Prop}
theorem Iv.nil : Iv ψ φ zn := ⟨.inl rfl, fun _ => rfl, rfl, rfl, List.nodup_nil, (fun k h => by cases h), (fun y h => by cases h)⟩
theorem withV_is {o : Node} (hk : o.kind = 0 ∨ o.kind = 3) (k : List UInt8) (v : Node) : withV o k v = ⟨3, [], o.keys ++ newK (inV o.keys k) k, wKids k v o.keys o.kids ++ newV (inV o.keys k) v⟩ := by
  have hc : (bif o.kind != 0 then o.kind != 3 else false) = false := by rcases hk with e | e <;> rw [e] <;> rfl
  unfold withV
  rw [hc]
  rfl
theorem inV_no {l : List (List UInt8)} {k : List UInt8} (h : k ∉ l) : inV l k = false := by
  cases hb : inV l k with
  | false => rfl
  | true => exact absurd (inV_iff.1 hb) h
theorem withV_new {o : Node} (hk : o.kind = 0 ∨ o.kind = 3) (hl : o.keys.length = o.kids.length) {k : List UInt8} (hn : k ∉ o.keys) (v : Node) : withV o k v = ⟨3, [], o.keys ++ [k], o.kids ++ [v]⟩ := by
  rw [withV_is hk, inV_no hn, wKids_id k v o.keys o.kids hl hn]
  rfl
theorem Iv.put {o : Node} (h : Iv ψ φ o) {k : List UInt8} {v : Node} (hk : ψ k) (hv : φ v) : Iv ψ φ (withV o k v) := by
  obtain ⟨h1, h2, h3, h4⟩ := withV_fit (k := k) (v := v) h.kind h.len
  have e := withV_is h.kind k v
  have ek : (withV o k v).keys = o.keys ++ newK (inV o.keys k) k := by rw [e]
  refine ⟨.inr h1, (fun e => by rw [h1] at e; cases e), (by rw [e]), h2, ?_, ?_, ?_⟩
  · rw [ek]
    by_cases hm : k ∈ o.keys
    · rw [inV_iff.2 hm]; simpa [newK] using h.nd
    · rw [inV_no hm]
      show (o.keys ++ [k]).Nodup
      rw [List.nodup_append]
      exact ⟨h.nd, by simp, fun a ha b hb => by rw [List.mem_singleton.1 hb]; intro e; exact hm (e ▸ ha)⟩
  · rw [ek]
    intro q hq
    rcases List.mem_append.1 hq with hq | hq
    · exact h.key q hq
    · cases hb : inV o.keys k with
      | true => rw [hb] at hq; cases hq
      | false => rw [hb] at hq; rw [List.mem_singleton.1 hq]; exact hk
  · intro y hy
    rcases h4 y hy with rfl | hy
    · exact hv
    · exact h.kid y hy
theorem lk_there {k : List UInt8} : ∀ {ks : List (List UInt8)} {vs : List Node}, ks.length = vs.length → (lk ks vs k).isSome = inV ks k
  | [], [], _ => rfl
  | a :: t, x :: w, h => by
    unfold lk
    by_cases e : k = a
    · subst e; rw [if_pos rfl]; simp [inV]
    · have : (a == k) = false := by simpa using fun h : a = k => e h.symm
      rw [if_neg e, lk_there (by simpa using h)]
      simp [inV, this]
  | [], _ :: _, h => by simp at h
  | _ :: _, [], h => by simp at h
theorem Iv.there {o : Node} (h : Iv ψ φ o) (k : List UInt8) : getB o k = inV o.keys k := by
  unfold getB get
  rcases h.kind with e | e
  · rw [if_neg (by rw [e]; decide), h.none_ e]; rfl
  · rw [if_pos e]; exact lk_there h.len
theorem Iv.with_ {o : Node} (h : Iv ψ φ o) (k : List UInt8) (v : Node) : withP o k v = withV o k v := withP_eq h.kind h.len h.nd
theorem pr0_bad (f : List UInt8 → Bool) : ∀ (l : List (List UInt8)) (o : Node), (pr0 f l o true).2 = true
  | [], _ => rfl
  | s :: t, o => pr0_bad f t _
theorem pr1_bad (f : List UInt8 → Bool) : ∀ (l : List (List UInt8)) (r : List Node) (o : Node), (pr1 f l r o true).2 = true
  | [], _, _ => rfl
  | _ :: _, [], _ => rfl
  | s :: t, y :: r, o => pr1_bad f t r _
theorem pr0_eq {f g : List UInt8 → Bool} (hfg : ∀ s, f s = g s) (hψ : ∀ k, g k = true → ψ k)   : ∀ (l : List (List UInt8)) (o : Node), (∀ s ∈ l, φ (txtN (s.drop (fi s + 1)))) → Iv ψ φ o →
    (rp0 g l o = none ∧ (pr0 f l o false).2 = true) ∨ ∃ o', rp0 g l o = some o' ∧ pr0 f l o false = (o', false) ∧ Iv ψ φ o'
  | [], o, _, h => .inr ⟨o, rfl, rfl, h⟩
  | s :: t, o, hφ, h => by
    unfold rp0 pr0
    rw [cutA_fi, cutB_fi, hfg, h.there, h.with_, cond_false]
    generalize s.take (fi s) = k
    cases hg : g k with
    | false =>
      refine .inl ⟨rfl, ?_⟩
      have : (bif inV o.keys k then true else !false) = true := by cases inV o.keys k <;> rfl
      rw [this]
      exact pr0_bad f t _
    | true =>
      cases hi : inV o.keys k with
      | true => exact .inl ⟨rfl, pr0_bad f t _⟩
      | false => exact pr0_eq hfg hψ t _ (fun q hq => hφ q (List.mem_cons_of_mem _ hq)) (h.put (hψ k hg) (hφ s List.mem_cons_self))
theorem pr1_eq {f g : List UInt8 → Bool} (hfg : ∀ s, f s = g s) (hψ : ∀ k, g k = true → ψ k)   : ∀ (l : List (List UInt8)) (r : List Node) (o : Node), (∀ y ∈ r, φ (txtN y.text)) → Iv ψ φ o →
    (rp1 g l r o = none ∧ (pr1 f l r o false).2 = true) ∨ ∃ o', rp1 g l r o = some o' ∧ pr1 f l r o false = (o', false) ∧ Iv ψ φ o'
  | [], _, o, _, h => .inr ⟨o, by unfold rp1; rfl, by unfold pr1; rfl, h⟩
  | _ :: _, [], o, _, h => .inr ⟨o, by unfold rp1; rfl, by unfold pr1; rfl, h⟩
  | s :: t, y :: r, o, hφ, h => by
    unfold rp1 pr1
    rw [hfg, h.with_, cond_false]
    cases hg : g s with
    | false =>
      refine .inl ⟨rfl, ?_⟩
      have : (bif decide ((1 : Int) < y.kind) then true else !false) = true := by cases decide ((1 : Int) < y.kind) <;> rfl
      rw [this]
      exact pr1_bad f t r _
    | true =>
      cases hi : decide ((1 : Int) < y.kind) with
      | true => exact .inl ⟨rfl, pr1_bad f t r _⟩
      | false => exact pr1_eq hfg hψ t r _ (fun q hq => hφ q (List.mem_cons_of_mem _ hq)) (h.put (hψ s hg) (hφ y List.mem_cons_self))
/-- A map of keys that were not there: its keys and values behind the ones that were. -/
theorem rp1_keys {g : List UInt8 → Bool} : ∀ (ks : List (List UInt8)) (vs : List Node) (o o' : Node), ks.length = vs.length → ks.Nodup → (∀ k ∈ ks, k ∉ o.keys) → (o.kind = 0 ∨ o.kind = 3) → o.keys.length = o.kids.length →
    rp1 g ks vs o = some o' → o'.keys = o.keys ++ ks
  | [], [], o, o', _, _, _, _, _, h => by unfold rp1 at h; cases h; simp
  | s :: t, y :: r, o, o', hl, hn, hd, hk, hlen, h => by
    unfold rp1 at h
    have hn' := List.nodup_cons.1 hn
    cases hb : (bif !(g s) then true else decide ((1 : Int) < y.kind)) with
    | true => rw [hb] at h; cases h
    | false =>
      rw [hb, cond_false, withV_new hk hlen (hd s List.mem_cons_self)] at h
      have := rp1_keys t r _ o' (by simpa using hl) hn'.2 (fun k hm hq => by
        rcases List.mem_append.1 hq with hq | hq
        · exact hd k (List.mem_cons_of_mem _ hm) hq
        · rw [List.mem_singleton.1 hq] at hm; exact hn'.1 hm) (.inr rfl) (by simp [hlen]) h
      rw [this]; simp
  | [], _ :: _, _, _, h, _, _, _, _, _ => by simp at h
  | _ :: _, [], _, _, h, _, _, _, _, _ => by simp at h
theorem rp1_all {g : List UInt8 → Bool} : ∀ (ks : List (List UInt8)) (vs : List Node) (o : Node), ks.length = vs.length → ks.Nodup → (∀ k ∈ ks, k ∉ o.keys) → (o.kind = 0 ∨ o.kind = 3) → o.keys.length = o.kids.length → o.text = [] →
    (∀ k ∈ ks, g k = true) → (∀ y ∈ vs, y = txtN y.text) → ∃ o', rp1 g ks vs o = some o' ∧ o'.text = [] ∧ o'.keys = o.keys ++ ks ∧ o'.kids = o.kids ++ vs
  | [], [], o, _, _, _, _, _, ht, _, _ => ⟨o, by unfold rp1; rfl, ht, by simp, by simp⟩
  | s :: t, y :: r, o, hl, hn, hd, hk, hlen, ht, hg, hv => by
    have hn' := List.nodup_cons.1 hn
    have hy := hv y List.mem_cons_self
    have hk1 : ¬ (1 : Int) < y.kind := by rw [hy]; show ¬ (1 : Int) < 1; decide
    unfold rp1
    rw [hg s List.mem_cons_self, dF hk1, withV_new hk hlen (hd s List.mem_cons_self), ← hy]
    obtain ⟨o', h1, h2, h3, h4⟩ := rp1_all (g := g) t r ⟨3, [], o.keys ++ [s], o.kids ++ [y]⟩ (by simpa using hl) hn'.2 (fun k hm hq => by
        rcases List.mem_append.1 hq with hq | hq
        · exact hd k (List.mem_cons_of_mem _ hm) hq
        · rw [List.mem_singleton.1 hq] at hm; exact hn'.1 hm) (.inr rfl) (by simp [hlen]) rfl (fun k hm => hg k (List.mem_cons_of_mem _ hm)) (fun z hz => hv z (List.mem_cons_of_mem _ hz))
    exact ⟨o', h1, h2, by rw [h3]; simp, by rw [h4]; simp⟩
  | [], _ :: _, _, h, _, _, _, _, _, _, _ => by simp at h
  | _ :: _, [], _, h, _, _, _, _, _, _, _ => by simp at h
/-! The end of a gathering -/
theorem Iv.leafs {o : Node} (h : Iv ψ φ o) (hφ : ∀ y, φ y → wg 10000 11 y = true ∧ kd 11 y = true) (h32 : o.keys.length ≤ 32) : wg 10000 12 (mapN o) = true ∧ kd 12 (mapN o) = true :=
  ⟨wg_iff.2 ⟨by show o.keys.length ≤ 10000; omega, by have := h.len; show o.kids.length ≤ 10000; omega, fun _ => h.len, fun y hy => (hφ y (h.kid y hy)).1⟩,
   kd_iff.2 ⟨⟨⟨show (0 : Int) ≤ 3 by decide, show (3 : Int) ≤ 3 by decide⟩, fun e => absurd rfl e⟩, fun e => absurd (show (3 : Int) < 2 from e) (by decide), fun y hy => (hφ y (h.kid y hy)).2⟩⟩
theorem Iv.dn {o : Node} (h : Iv ψ φ o) (hφ : ∀ y, φ y → wg 10000 11 y = true ∧ kd 11 y = true) : dnV o false = doneV o true ∧ dnE o false = (bif doneB o true then 0 else 10) := by
  unfold dnV dnE doneV doneB failB
  simp only [cond_false, Bool.not_true]
  by_cases h32 : (32 : Int) < (o.keys.length : Int)
  · rw [dT h32]; exact ⟨rfl, rfl⟩
  · obtain ⟨hw, hk⟩ := h.leafs hφ (by omega)
    rw [dF h32]
    exact ⟨sortP_eq 12 _ hw hk, rfl⟩
/-- A form of a map. -/
structure Sf (ψ : List UInt8 → Prop) (φ : Node → Prop) (a : Node) : Prop where
  kind : a.kind = 3
  text : a.text = []
  ss : Pl.SS a.keys
  len : a.keys.length = a.kids.length
  le : a.keys.length ≤ 32
  key : ∀ k ∈ a.keys, ψ k
  kid : ∀ y ∈ a.kids, φ y
theorem ss_nodup {l : List (List UInt8)} (h : Pl.SS l) : l.Nodup := List.Pairwise.imp (fun {a b} (h : a < b) (e : a = b) => Pl.s_irrefl b (e ▸ h)) h
theorem Iv.form {o : Node} (h : Iv ψ φ o) (hs : ∀ y, φ y → sortN 11 y = y) (h32 : o.keys.length ≤ 32) : Sf ψ φ (sortN 12 (mapN o)) := by
  have e : sortN 12 (mapN o) = ⟨3, o.text, Pl.sortD o.keys, (Pl.sortD o.keys).map fun k => sortN 11 (getV (mapN o) k)⟩ := rfl
  rw [e]
  refine ⟨rfl, h.text, (Pl.sortD_spec o.keys).1, by simp, Nat.le_trans (Pl.sortD_len _) h32, fun k hk => h.key k (Pl.sortD_mem.1 hk), fun y hy => ?_⟩
  obtain ⟨k, hk, rfl⟩ := List.mem_map.1 hy
  have hg : getB (mapN o) k = true := by
    show (get (mapN o) k).isSome = true
    have : get (mapN o) k = lk o.keys o.kids k := if_pos rfl
    rw [this, lk_there h.len]
    exact inV_iff.2 (Pl.sortD_mem.1 hk)
  have := h.kid _ (getV_mem (a := mapN o) hg)
  rw [hs _ this]
  exact this
theorem lk_back : ∀ (ks : List (List UInt8)) (vs : List Node), ks.length = vs.length → ks.Nodup → ks.map (fun k => (lk ks vs k).getD zn) = vs
  | [], [], _, _ => rfl
  | a :: t, x :: w, h, hn => by
    have hn' := List.nodup_cons.1 hn
    rw [List.map_cons]
    congr 1
    · unfold lk; rw [if_pos rfl]; rfl
    · rw [← lk_back t w (by simpa using h) hn'.2]
      refine List.map_congr_left fun k hk => ?_
      have : k ≠ a := fun e => hn'.1 (e ▸ hk)
      rw [lk_back t w (by simpa using h) hn'.2]
      conv => lhs; unfold lk
      rw [if_neg this]
  | [], _ :: _, h, _ => by simp at h
  | _ :: _, [], h, _ => by simp at h
theorem Sf.sorted {a : Node} (h : Sf ψ φ a) (hs : ∀ y, φ y → sortN 11 y = y) : sortN 12 a = a := by
  have hk : Pl.sortD a.keys = a.keys := Pl.sortD_eq h.ss fun _ => Iff.rfl
  have e : sortN 12 a = ⟨a.kind, a.text, Pl.sortD a.keys, (Pl.sortD a.keys).map fun k => sortN 11 (getV a k)⟩ := by
    show (bif a.kind == 3 then _ else _) = _
    rw [eqT h.kind]; rfl
  rw [e, hk]
  have e2 : (a.keys.map fun k => sortN 11 (getV a k)) = a.keys.map fun k => (lk a.keys a.kids k).getD zn := by
    refine List.map_congr_left fun k hk => ?_
    have hg : getB a k = true := by
      show (get a k).isSome = true
      rw [show get a k = lk a.keys a.kids k from if_pos h.kind, lk_there h.len]
      exact inV_iff.2 hk
    rw [hs _ (h.kid _ (getV_mem hg))]
    show (get a k).getD zn = _
    rw [show get a k = lk a.keys a.kids k from if_pos h.kind]
  rw [e2, lk_back _ _ h.len (ss_nodup h.ss)]
  exact node_eta a
theorem Sf.wg_ {a : Node} (h : Sf ψ φ a) (hφ : ∀ y, φ y → wg 10000 11 y = true ∧ kd 11 y = true) : wg 10000 12 a = true :=
  wg_iff.2 ⟨by have := h.le; omega, by have := h.le; have := h.len; omega, fun _ => h.len, fun y hy => (hφ y (h.kid y hy)).1⟩
theorem done_form {a o' : Node} (h : Sf ψ φ a) (hs : ∀ y, φ y → sortN 11 y = y) (h1 : o'.text = []) (h2 : o'.keys = a.keys) (h3 : o'.kids = a.kids) : doneV o' true = a ∧ doneB o' true = true := by
  have hm : mapN o' = a := by
    show (⟨3, o'.text, o'.keys, o'.kids⟩ : Node) = a
    rw [h1, h2, h3, ← h.text, ← h.kind]
    exact node_eta a
  have hb : doneB o' true = true := by
    unfold doneB
    rw [h2, Bool.not_true, cond_false, dF (show ¬ (32 : Int) < (a.keys.length : Int) by have := h.le; omega)]
    rfl
  unfold doneV
  rw [hb, hm, h.sorted hs]
  exact ⟨rfl, rfl⟩
end
/-! ### Pairs -/
def isTx (y : Node) : Prop := y = txtN y.text ∧ y.text.length ≤ 200
theorem isTx_of {s : List UInt8} (h : s.length ≤ 200) : isTx (txtN s) := ⟨rfl, h⟩
theorem isTx_wk (y : Node) (h : isTx y) : wg 10000 11 y = true ∧ kd 11 y = true := by
  rw [h.1]; exact ⟨txtN_wg _ 10, by simp [kd, txtN]⟩
theorem isTx_s (y : Node) (h : isTx y) : sortN 11 y = y := by rw [h.1]; rfl
theorem rtxB_eq (n : Node) : rtxB n = txsB n := by
  unfold rtxB txsB rtx0
  cases hk : n.kind == 2 with
  | false => rw [show (n.kind != 2) = true from by rw [bne, hk]; rfl]; simp
  | true =>
    rw [show (n.kind != 2) = false from by rw [bne, hk]; rfl]
    simp only [cond_false, cond_true]
    by_cases h : (32 : Int) < (n.kids.length : Int)
    · rw [dT h, dF (by omega)]; simp
    · rw [dF h, dT (by omega)]; simp
theorem txs_rtx : ∀ (l : List Node) (t : List (List UInt8)), txsV l = some t → rtxV l = t
  | [], t, h => by cases h; rfl
  | x :: r, t, h => by
    unfold txsV at h
    unfold rtxV
    cases hb : x.kind != 1 with
    | true => rw [hb] at h; cases h
    | false =>
      rw [hb, cond_false] at h
      cases hr : txsV r with
      | none => rw [hr] at h; cases h
      | some q => rw [hr] at h; cases h; rw [txs_rtx r q hr]; rfl
theorem rtxL_eq {n : Node} (h : txsB n = true) : rtxL n = txsL n := by
  have h' := rtxB_eq n ▸ h
  unfold rtxB at h'
  unfold rtxL txsL
  cases h0 : rtx0 n with
  | true => rw [h0] at h'; cases h'
  | false =>
    rw [h0, cond_false] at h'
    cases ht : txsV n.kids with
    | none => rw [ht] at h'; cases h'
    | some t => rw [cond_false, txs_rtx _ _ ht]; rfl
theorem txsV_txt {B : Nat} : ∀ (l : List Node) (t : List (List UInt8)), txsV l = some t → (∀ y ∈ l, y.text.length ≤ B) → ∀ s ∈ t, s.length ≤ B
  | [], t, h, _, s, hs => by cases h; cases hs
  | x :: r, t, h, hb, s, hs => by
    unfold txsV at h
    cases hk : x.kind != 1 with
    | true => rw [hk] at h; cases h
    | false =>
      rw [hk, cond_false] at h
      cases hr : txsV r with
      | none => rw [hr] at h; cases h
      | some q =>
        rw [hr] at h
        cases h
        rcases List.mem_cons.1 hs with rfl | hs
        · exact hb x List.mem_cons_self
        · exact txsV_txt r q hr (fun y hy => hb y (List.mem_cons_of_mem _ hy)) s hs
theorem txsL_txt {B : Nat} {n : Node} (h : ∀ y ∈ n.kids, y.text.length ≤ B) : ∀ s ∈ txsL n, s.length ≤ B := by
  unfold txsL
  cases ht : txsV n.kids with
  | none => intro s hs; cases hs
  | some t => exact txsV_txt _ _ ht h
theorem dn_bad (o : Node) : dnV o true = zn ∧ dnE o true = 10 := ⟨rfl, rfl⟩
/-- What a map's form is to be, of a node as it comes in. -/
def Gn (n : Node) : Prop := (n.kind = 3 → n.keys.length = n.kids.length ∧ n.keys.Nodup) ∧ ∀ y ∈ n.kids, y.text.length ≤ 200
theorem pairs_eq {n : Node} (hn : Gn n) (v : Bool) : (prsV n v = rprV n v ∧ prsE n v = (bif rprB n v then 0 else 10)) ∧ (rprB n v = true → Sf (fun k => keyB k v = true) isTx (rprV n v)) := by
  have fin : ∀ (p : Node × Bool) (q : Option Node), ((p.2 = true ∧ oV q = zn ∧ oB q = false) ∨ ∃ o', q = some o' ∧ p = (o', false) ∧ Iv (fun k => keyB k v = true) isTx o') →
      (dnV p.1 p.2 = oV q ∧ dnE p.1 p.2 = (bif oB q then 0 else 10)) ∧ (oB q = true → Sf (fun k => keyB k v = true) isTx (oV q)) := by
    rintro p q (⟨hb, h1, h2⟩ | ⟨o', rfl, rfl, hi⟩)
    · rw [hb, h1, h2]; exact ⟨dn_bad _, fun h => by cases h⟩
    · refine ⟨hi.dn isTx_wk, fun hb => ?_⟩
      have hb : doneB o' true = true := hb
      have h32 : o'.keys.length ≤ 32 := by
        unfold doneB at hb
        simp only [Bool.not_true, cond_false, Bool.not_eq_true', decide_eq_false_iff_not] at hb
        omega
      have e : oV (some o') = sortN 12 (mapN o') := by show doneV o' true = _; unfold doneV; rw [hb]; rfl
      rw [e]
      exact hi.form isTx_s h32
  unfold prsV prsE rprV rprB
  refine fin (prP n v) (rpP n v) ?_
  unfold prP rpP
  rw [rtxB_eq]
  cases ht : txsB n with
  | true =>
    simp only [cond_true]
    rw [rtxL_eq ht]
    rcases pr0_eq (ψ := fun k => keyB k v = true) (φ := isTx) (f := rightV v) (g := fun s => keyB s v) (fun s => rightV_eq s v) (fun k h => h) (txsL n) zn (fun s hs => isTx_of (by rw [List.length_drop]; have := txsL_txt hn.2 s hs; omega)) Iv.nil with ⟨h1, h2⟩ | h
    · rw [h1]; exact .inl ⟨h2, rfl, rfl⟩
    · exact .inr h
  | false =>
    simp only [cond_false]
    unfold memB
    by_cases h3 : n.kind = 3
    · obtain ⟨hl, hnd⟩ := hn.1 h3
      rw [eqT h3, neF h3, cond_true, cond_false]
      by_cases hm : (n.kids.length : Int) ≤ 32
      · rw [dT hm, cond_true]
        rcases pr1_eq (ψ := fun k => keyB k v = true) (φ := isTx) (f := rightV v) (g := fun s => keyB s v) (fun s => rightV_eq s v) (fun k h => h) n.keys n.kids zn (fun y hy => isTx_of (hn.2 y hy)) Iv.nil with ⟨h1, h2⟩ | h
        · rw [h1]; exact .inl ⟨h2, rfl, rfl⟩
        · exact .inr h
      · rw [dF hm, cond_false]
        cases hr : rp1 (fun s => keyB s v) n.keys n.kids zn with
        | none => exact .inl ⟨rfl, rfl, rfl⟩
        | some o' =>
          have hk := rp1_keys n.keys n.kids zn o' hl hnd (fun k _ h => by cases h) (.inl rfl) rfl hr
          have hb : doneB o' true = false := by
            unfold doneB
            rw [hk, Bool.not_true, cond_false, dT (show (32 : Int) < (((zn.keys ++ n.keys).length : Nat) : Int) by rw [show zn.keys = [] from rfl, List.nil_append]; omega)]
            rfl
          refine .inl ⟨rfl, ?_, hb⟩
          show doneV o' true = zn
          unfold doneV
          rw [hb]; rfl
    · rw [eqF h3, neT h3]
      exact .inl ⟨rfl, rfl, rfl⟩
theorem pairs_self {a : Node} {v : Bool} (h : Sf (fun k => keyB k v = true) isTx a) : rprV a v = a ∧ rprB a v = true := by
  have ht : rtxB a = false := by
    unfold rtxB rtx0
    rw [h.kind]; rfl
  unfold rprV rprB rpP
  rw [ht, cond_false, neF h.kind, cond_false]
  obtain ⟨o', h1, h2, h3, h4⟩ := rp1_all (g := fun s => keyB s v) a.keys a.kids zn h.len (ss_nodup h.ss) (fun k _ h => by cases h) (.inl rfl) rfl rfl h.key (fun y hy => (h.kid y hy).1)
  rw [h1]
  exact done_form h isTx_s h2 (by rw [h3]; rfl) (by rw [h4]; rfl)
/-! ### Set -/
def isZn (y : Node) : Prop := y = zn
theorem isZn_wk (y : Node) (h : isZn y) : wg 10000 11 y = true ∧ kd 11 y = true := by
  rw [h]; exact ⟨by simp [wg, zn], by simp [kd, zn]⟩
theorem isZn_s (y : Node) (h : isZn y) : sortN 11 y = y := by rw [h]; rfl
theorem rs1_no (g : List UInt8 → Bool) (l : List (List UInt8)) (o : Node) : (rs1 g l false o).2 = false := by
  cases l <;> rfl
section
variable {ψ : List UInt8 → Prop}
theorem rs1_eq {f g : List UInt8 → Bool} (hfg : ∀ s, f s = g s) (hψ : ∀ k, g k = true → ψ k) : ∀ (l : List (List UInt8)) (o : Node), Iv ψ isZn o →
    (l.any (fun s => !(f s)) = true ∧ (rs1 g l true o).2 = false) ∨ (l.any (fun s => !(f s)) = false ∧ rs1 g l true o = (putAll (fun _ => zn) l o, true) ∧ Iv ψ isZn (putAll (fun _ => zn) l o))
  | [], o, h => .inr ⟨rfl, rfl, h⟩
  | s :: t, o, h => by
    unfold rs1 putAll
    rw [List.any_cons, hfg, h.with_, cond_true]
    cases hg : g s with
    | false => exact .inl ⟨rfl, rs1_no g t _⟩
    | true =>
      rw [Bool.not_true, Bool.false_or]
      exact rs1_eq hfg hψ t _ (h.put (hψ s hg) rfl)
theorem rs1_all {g : List UInt8 → Bool} : ∀ (ks : List (List UInt8)) (o : Node), ks.Nodup → (∀ k ∈ ks, k ∉ o.keys) → (o.kind = 0 ∨ o.kind = 3) → o.keys.length = o.kids.length → o.text = [] →
    (∀ k ∈ ks, g k = true) → ∃ o', rs1 g ks true o = (o', true) ∧ o'.text = [] ∧ o'.keys = o.keys ++ ks ∧ o'.kids = o.kids ++ ks.map fun _ => zn
  | [], o, _, _, _, _, ht, _ => ⟨o, rfl, ht, by simp, by simp⟩
  | s :: t, o, hn, hd, hk, hlen, ht, hg => by
    have hn' := List.nodup_cons.1 hn
    unfold rs1
    rw [hg s List.mem_cons_self, cond_true, withV_new hk hlen (hd s List.mem_cons_self)]
    obtain ⟨o', h1, h2, h3, h4⟩ := rs1_all (g := g) t ⟨3, [], o.keys ++ [s], o.kids ++ [zn]⟩ hn'.2 (fun k hm hq => by
        rcases List.mem_append.1 hq with hq | hq
        · exact hd k (List.mem_cons_of_mem _ hm) hq
        · rw [List.mem_singleton.1 hq] at hm; exact hn'.1 hm) (.inr rfl) (by simp [hlen]) rfl (fun k hm => hg k (List.mem_cons_of_mem _ hm))
    exact ⟨o', h1, h2, by rw [h3]; simp, by rw [h4]; simp⟩
end
theorem done_no (o : Node) : doneV o false = zn ∧ doneB o false = false := ⟨rfl, rfl⟩
theorem set_eq {n : Node} (hn : Gn n) : (setVn n = rsetV n ∧ setEn n = (bif rsetB n then 0 else 10)) ∧ (rsetB n = true → Sf (fun k => nameV badS k = true) isZn (rsetV n)) := by
  have fin : ∀ (o : Node) (b : Bool) (q : Node × Bool), ((b = true ∧ q.2 = false) ∨ (b = false ∧ q = (o, true) ∧ Iv (fun k => nameV badS k = true) isZn o)) →
      (dnV o b = doneV q.1 q.2 ∧ dnE o b = (bif doneB q.1 q.2 then 0 else 10)) ∧ (doneB q.1 q.2 = true → Sf (fun k => nameV badS k = true) isZn (doneV q.1 q.2)) := by
    rintro o b q (⟨rfl, hb⟩ | ⟨rfl, rfl, hi⟩)
    · rw [hb]; exact ⟨dn_bad _, fun h => by cases h⟩
    · refine ⟨hi.dn isZn_wk, fun hb => ?_⟩
      have hb : doneB o true = true := hb
      have h32 : o.keys.length ≤ 32 := by
        unfold doneB at hb
        simp only [Bool.not_true, cond_false, Bool.not_eq_true', decide_eq_false_iff_not] at hb
        omega
      have e : doneV o true = sortN 12 (mapN o) := by unfold doneV; rw [hb]; rfl
      show Sf _ _ (doneV o true)
      rw [e]
      exact hi.form isZn_s h32
  have hm : memB n 3 = rs0 n := by
    unfold memB rs0
    by_cases h3 : n.kind = 3
    · rw [(hn.1 h3).1]
    · rw [eqF h3]; rfl
  have step := fun (l : List (List UInt8)) => rs1_eq (ψ := fun k => nameV badS k = true) (f := ofV s1B s2B) (g := nameV badS) service_eq (fun k h => h) l zn Iv.nil
  unfold setVn setEn rsetV rsetB
  refine fin (setO n) (setF n) (rsP n) ?_
  unfold setO setF setL set0 rsP
  rw [hm]
  cases hr : rs0 n with
  | true =>
    simp only [cond_true]
    cases hb : n.kids.any badKid with
    | true => exact .inl ⟨rfl, rs1_no _ _ _⟩
    | false =>
      rw [Bool.false_or, Bool.not_false]
      exact step n.keys
  | false =>
    simp only [cond_false]
    rw [rtxB_eq]
    cases ht : txsB n with
    | false => exact .inl ⟨rfl, rs1_no _ _ _⟩
    | true =>
      rw [Bool.not_true, Bool.false_or, rtxL_eq ht]
      exact step (txsL n)
theorem set_self {a : Node} (h : Sf (fun k => nameV badS k = true) isZn a) : rsetV a = a ∧ rsetB a = true := by
  have hr : rs0 a = true := by
    unfold rs0
    rw [eqT h.kind, cond_true, dT (by have := h.le; omega)]
  have hb : a.kids.any badKid = false := by
    rw [List.any_eq_false]
    intro y hy
    rw [show y = zn from h.kid y hy]
    decide
  obtain ⟨o', h1, h2, h3, h4⟩ := rs1_all (g := nameV badS) a.keys zn (ss_nodup h.ss) (fun k _ h => by cases h) (.inl rfl) rfl rfl h.key
  unfold rsetV rsetB rsP
  rw [hr, hb, cond_true, Bool.not_false, h1]
  refine done_form h isZn_s h2 (by rw [h3]; rfl) ?_
  rw [h4, show zn.kids = [] from rfl, List.nil_append]
  refine List.ext_getElem (by simp [h.len]) fun i h1 h2 => ?_
  rw [List.getElem_map]
  exact (h.kid _ (List.getElem_mem h2)).symm
end Go.Proofs.YtpmknebhacaocaaGreatDoor.Rf