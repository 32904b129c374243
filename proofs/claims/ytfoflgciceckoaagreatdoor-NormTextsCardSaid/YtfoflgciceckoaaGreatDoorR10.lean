/- Shapes of forms: plain facts. -/
import Derived.Test.YtfoflgciceckoaaGreatDoorR5
namespace Go.Proofs.YtfoflgciceckoaaGreatDoor.Rf
open Go Go.RowKit Go.Sort Go.Proofs.YtfoflgciceckoaaGreatDoor.Mir
/-! ### Shapes: what is a map, and what is none, at each path -/
inductive Sh where
  | leaf
  | map (f : List UInt8 → Sh)
/-- A node of a shape; at the key of what is extended anything may stand. -/
def pfits : Sh → Node → Prop
  | .leaf, x => x.kind ≠ 3
  | .map f, x => (x.kind = 3 ∧ x.text = []) ∧ x.keys.length = x.kids.length ∧ ∀ k v, lk x.keys x.kids k = some v → k = ext ∨ pfits (f k) v
/-- The same, keys in order. -/
def fits : Sh → Node → Prop
  | .leaf, x => x.kind ≠ 3
  | .map f, x => (x.kind = 3 ∧ x.text = []) ∧ (Pl.SS x.keys ∧ x.keys.length = x.kids.length) ∧ ∀ k v, lk x.keys x.kids k = some v → k = ext ∨ fits (f k) v
theorem lk_none {k : List UInt8} : ∀ {ks : List (List UInt8)} {vs : List Node}, ks.length = vs.length → k ∉ ks → lk ks vs k = none
  | [], [], _, _ => rfl
  | a :: t, v :: w, h, hn => by
    unfold lk
    rw [if_neg (fun e => hn (by rw [e]; exact List.mem_cons_self))]
    exact lk_none (by simpa using h) (fun hm => hn (List.mem_cons_of_mem _ hm))
  | [], _ :: _, h, _ => by simp at h
  | _ :: _, [], h, _ => by simp at h
theorem lk_key {k : List UInt8} : ∀ {ks : List (List UInt8)} {vs : List Node} {v : Node}, lk ks vs k = some v → k ∈ ks
  | a :: t, x :: w, v, h => by
    unfold lk at h
    split at h
    · rename_i e; rw [e]; exact List.mem_cons_self
    · exact List.mem_cons_of_mem _ (lk_key h)
  | [], _, _, h => by cases h
  | _ :: _, [], _, h => by cases h
theorem lk_map {k : List UInt8} (g : List UInt8 → Node) : ∀ (ks : List (List UInt8)), k ∈ ks → lk ks (ks.map g) k = some (g k)
  | a :: t, h => by
    simp only [List.map_cons, lk]
    by_cases e : k = a
    · rw [if_pos e, e]
    · rw [if_neg e]; exact lk_map g t ((List.mem_cons.1 h).resolve_left e)
  | [], h => by cases h
theorem lk_app {k : List UInt8} : ∀ (ks : List (List UInt8)) (vs : List Node) (ks' : List (List UInt8)) (vs' : List Node), ks.length = vs.length → lk (ks ++ ks') (vs ++ vs') k = (match lk ks vs k with | some v => some v | none => lk ks' vs' k)
  | [], [], _, _, _ => rfl
  | a :: t, v :: w, ks', vs', h => by
    simp only [List.cons_append, lk]
    by_cases e : k = a
    · rw [if_pos e, if_pos e]
    · rw [if_neg e, if_neg e]; exact lk_app t w ks' vs' (by simpa using h)
  | [], _ :: _, _, _, h => by simp at h
  | _ :: _, [], _, _, h => by simp at h
theorem lk_wKids (k : List UInt8) (v : Node) (k' : List UInt8) : ∀ (ks : List (List UInt8)) (vs : List Node), ks.length = vs.length → lk ks (wKids k v ks vs) k' = (if k' = k then (if k ∈ ks then some v else none) else lk ks vs k')
  | [], [], _ => by simp [wKids, lk]
  | a :: t, x :: w, h => by
    have ih := lk_wKids k v k' t w (by simpa using h)
    simp only [wKids, lk]
    by_cases e : k' = a
    · rw [if_pos e]
      by_cases e2 : k' = k
      · subst e2; subst e; simp
      · have hb : (a == k) = false := by simpa using fun h => e2 (e.trans h)
        rw [hb, if_neg e2, if_pos e]; rfl
    · rw [if_neg e, ih]
      by_cases e2 : k' = k
      · subst e2
        rw [if_pos rfl, if_pos rfl]
        simp [e]
      · rw [if_neg e2, if_neg e2, if_neg e]
  | [], _ :: _, h => by simp at h
  | _ :: _, [], h => by simp at h
theorem inV_iff {l : List (List UInt8)} {s : List UInt8} : inV l s = true ↔ s ∈ l := by
  unfold inV
  rw [List.any_eq_true]
  constructor
  · rintro ⟨x, hx, h⟩
    have : x = s := by simpa using h
    subst this; exact hx
  · exact fun h => ⟨s, h, by simp⟩
/-- What With says of a key. -/
theorem withV_lk {x : Node} {k : List UInt8} {v : Node} (hk : x.kind = 0 ∨ x.kind = 3) (h : x.keys.length = x.kids.length) (k' : List UInt8) :
    lk (withV x k v).keys (withV x k v).kids k' = (if k' = k then some v else lk x.keys x.kids k') := by
  have hc : (bif x.kind != 0 then x.kind != 3 else false) = false := by rcases hk with e | e <;> rw [e] <;> rfl
  unfold withV
  rw [hc]
  simp only [cond_false]
  rw [lk_app _ _ _ _ (wKids_len k v x.keys x.kids h).symm, lk_wKids k v k' x.keys x.kids h]
  by_cases hm : k ∈ x.keys
  · rw [inV_iff.2 hm]
    by_cases e : k' = k
    · rw [if_pos e, if_pos hm, if_pos e]
    · rw [if_neg e, if_neg e]
      simp only [newK, newV, cond_true]
      cases lk x.keys x.kids k' <;> rfl
  · have hb : inV x.keys k = false := by
      cases h2 : inV x.keys k with
      | false => rfl
      | true => exact absurd (inV_iff.1 h2) hm
    rw [hb]
    simp only [newK, newV, cond_false]
    by_cases e : k' = k
    · rw [if_pos e, if_neg hm, if_pos e]; simp [lk, e]
    · rw [if_neg e, if_neg e]
      cases hl : lk x.keys x.kids k' with
      | some y => rfl
      | none => simp [lk, e]
/-- A map that is being built: its values are of a kind by their keys, and so deep at most. -/
structure Bld (φ : List UInt8 → Node → Prop) (x : Node) : Prop where
  kind : x.kind = 0 ∨ x.kind = 3
  text : x.text = []
  len : x.keys.length = x.kids.length
  val : ∀ k v, lk x.keys x.kids k = some v → φ k v
theorem Bld.nil {φ : List UInt8 → Node → Prop} {k : Int} (hk : k = 0 ∨ k = 3) : Bld φ ⟨k, [], [], []⟩ := ⟨hk, rfl, rfl, fun k v h => by cases h⟩
theorem withV_text {x : Node} {k : List UInt8} {v : Node} (hk : x.kind = 0 ∨ x.kind = 3) : (withV x k v).text = [] := by
  have hc : (bif x.kind != 0 then x.kind != 3 else false) = false := by rcases hk with e | e <;> rw [e] <;> rfl
  unfold withV
  rw [hc]
  rfl
theorem Bld.withV {φ : List UInt8 → Node → Prop} {x : Node} (h : Bld φ x) {k : List UInt8} {v : Node} (hv : φ k v) : Bld φ (withV x k v) := by
  obtain ⟨h1, h2, _, _⟩ := withV_fit (k := k) (v := v) h.kind h.len
  refine ⟨.inr h1, withV_text h.kind, h2, fun k' y hy => ?_⟩
  rw [withV_lk h.kind h.len] at hy
  split at hy
  · rename_i e; cases hy; subst e; exact hv
  · exact h.val k' y hy
/-- Every value of a map is found under its key, so long as no key stands twice. -/
theorem lk_all : ∀ {ks : List (List UInt8)} {vs : List Node}, ks.length = vs.length → ks.Nodup → ∀ y ∈ vs, ∃ k, lk ks vs k = some y
  | [], [], _, _, y, h => by cases h
  | a :: t, v :: w, hl, hn, y, h => by
    rcases List.mem_cons.1 h with rfl | h
    · exact ⟨a, by simp [lk]⟩
    · obtain ⟨k, hk⟩ := lk_all (by simpa using hl) (List.nodup_cons.1 hn).2 y h
      refine ⟨k, ?_⟩
      unfold lk
      rw [if_neg (fun e => (List.nodup_cons.1 hn).1 (by rw [← e]; exact lk_key hk))]
      exact hk
  | [], _ :: _, h, _, _, _ => by simp at h
  | _ :: _, [], h, _, _, _ => by simp at h
/-- In order. -/
theorem sortN_fits : ∀ (sh : Sh) (n : Nat) (x : Node), wg 10000 n x = true → pfits sh x → fits sh (sortN n x)
  | _, 0, _, h, _ => by cases h
  | .leaf, n + 1, x, _, hp => by
    have hp : x.kind ≠ 3 := hp
    show (sortN (n + 1) x).kind ≠ 3
    simp only [sortN]
    rw [eqF hp]
    exact hp
  | .map f, n + 1, x, hw, hp => by
    obtain ⟨⟨h3, ht⟩, hl, hv⟩ := hp
    have hw' := wg_iff.1 hw
    have e : sortN (n + 1) x = ⟨x.kind, x.text, Pl.sortD x.keys, (Pl.sortD x.keys).map fun k => sortN n (getV x k)⟩ := by
      simp only [sortN]; rw [eqT h3]; rfl
    rw [e]
    refine ⟨⟨h3, ht⟩, ⟨(Pl.sortD_spec _).1, by simp⟩, fun k v hk => ?_⟩
    have hmem := lk_key hk
    have hmem2 : k ∈ x.keys := Pl.sortD_mem.1 hmem
    rw [lk_map _ _ hmem] at hk
    cases hk
    obtain ⟨y, hy⟩ := lk_some hl hmem2
    have hg : getV x k = y := by unfold getV get; rw [if_pos h3, hy]; rfl
    rw [hg]
    rcases hv k y hy with h | h
    · exact .inl h
    · exact .inr (sortN_fits (f k) n y (hw'.2.2.2 y (lk_mem hy)) h)
theorem fits_pfits : ∀ (sh : Sh) (x : Node), fits sh x → pfits sh x
  | .leaf, _, h => h
  | .map f, x, ⟨h1, h2, h3⟩ => ⟨h1, h2.2, fun k v hk => (h3 k v hk).imp id (fits_pfits (f k) v)⟩
theorem sortN_wg : ∀ (n m : Nat) (x : Node), m ≤ n → wg 10000 m x = true → wg 10000 m (sortN n x) = true
  | _, 0, _, _, h => by cases h
  | n + 1, m + 1, x, hmn, h => by
    have hw := wg_iff.1 h
    simp only [sortN]
    by_cases h3 : x.kind = 3
    · rw [eqT h3, cond_true]
      have hs := Pl.sortD_len x.keys
      refine wg_iff.2 ⟨by show (Pl.sortD x.keys).length ≤ 10000; omega, by show ((Pl.sortD x.keys).map _).length ≤ 10000; rw [List.length_map]; omega, fun _ => by simp, fun y hy => ?_⟩
      obtain ⟨k, hk, rfl⟩ := List.mem_map.1 hy
      have hk2 : k ∈ x.keys := Pl.sortD_mem.1 hk
      exact sortN_wg n m _ (by omega) (wg_get h (getB_g h h3 hk2))
    · rw [eqF h3, cond_false]
      refine wg_iff.2 ⟨by simp, by simpa using hw.2.1, fun e => absurd e h3, fun y hy => ?_⟩
      obtain ⟨z, hz, rfl⟩ := List.mem_map.1 hy
      exact sortN_wg n m z (by omega) (hw.2.2.2 z hz)
  | 0, m + 1, _, h, _ => by omega
end Go.Proofs.YtfoflgciceckoaaGreatDoor.Rf