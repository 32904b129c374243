/- Plain facts of forms. -/
import Derived.Test.YtpmknebhacaocaaGreatDoorN7
import Derived.Test.YtpmknebhacaocaaGreatDoorR11
namespace Go.Proofs.YtpmknebhacaocaaGreatDoor.Rf
open Go Go.RowKit Go.Sort Go.Proofs.YtpmknebhacaocaaGreatDoor.Mir
/-! ### Plain facts: the program's With is the reference's where no key stands twice -/
theorem wKids_id (k : List UInt8) (v : Node) : ∀ (ks : List (List UInt8)) (vs : List Node), ks.length = vs.length → k ∉ ks → wKids k v ks vs = vs
  | [], [], _, _ => rfl
  | a :: t, x :: w, h, hn => by
    have hb : (a == k) = false := by simpa using fun e : a = k => hn (by rw [e]; exact List.mem_cons_self)
    simp only [wKids, hb, cond_false]
    rw [wKids_id k v t w (by simpa using h) (fun hm => hn (List.mem_cons_of_mem _ hm))]
  | [], _ :: _, h, _ => by simp at h
  | _ :: _, [], h, _ => by simp at h
theorem idxF_ge (k : List UInt8) : ∀ (ks : List (List UInt8)) (i : Nat), k ∈ ks → ∃ j : Nat, idxF k i ks = ((i + j : Nat) : Int)
  | [], _, h => by cases h
  | a :: t, i, h => by
    unfold idxF
    by_cases e : k = a
    · rw [if_pos e]; exact ⟨0, by simp⟩
    · rw [if_neg e]
      obtain ⟨j, hj⟩ := idxF_ge k t (i + 1) ((List.mem_cons.1 h).resolve_left e)
      exact ⟨j + 1, by rw [hj]; congr 1; omega⟩
theorem idxF_no (k : List UInt8) : ∀ (ks : List (List UInt8)) (i : Nat), k ∉ ks → idxF k i ks = -1
  | [], _, _ => rfl
  | a :: t, i, h => by
    unfold idxF
    rw [if_neg (fun e => h (by rw [e]; exact List.mem_cons_self))]
    exact idxF_no k t (i + 1) (fun hm => h (List.mem_cons_of_mem _ hm))
theorem set_w (k : List UInt8) (v : Node) : ∀ (ks : List (List UInt8)) (vs : List Node) (i : Nat), ks.length = vs.length → ks.Nodup → k ∈ ks → vs.set ((idxF k i ks).toNat - i) v = wKids k v ks vs
  | [], _, _, _, _, h => by cases h
  | a :: t, x :: w, i, hl, hn, hm => by
    have hn' := List.nodup_cons.1 hn
    unfold idxF
    by_cases e : k = a
    · subst e
      rw [if_pos rfl]
      simp only [wKids, beq_self_eq_true, cond_true, Int.toNat_natCast, Nat.sub_self, List.set_cons_zero]
      rw [wKids_id k v t w (by simpa using hl) hn'.1]
    · have hb : (a == k) = false := by simpa using fun h : a = k => e h.symm
      rw [if_neg e]
      have hm' := (List.mem_cons.1 hm).resolve_left e
      obtain ⟨j, hj⟩ := idxF_ge k t (i + 1) hm'
      have ih := set_w k v t w (i + 1) (by simpa using hl) hn'.2 hm'
      rw [hj, Int.toNat_natCast] at ih
      rw [hj, Int.toNat_natCast]
      have e2 : i + 1 + j - i = j + 1 := by omega
      have e3 : i + 1 + j - (i + 1) = j := by omega
      rw [e3] at ih
      rw [e2, List.set_cons_succ, ih]
      simp only [wKids, hb, cond_false]
  | _ :: _, [], _, h, _, _ => by simp at h
theorem withP_eq {o : Node} {k : List UInt8} {v : Node} (hk : o.kind = 0 ∨ o.kind = 3) (hl : o.keys.length = o.kids.length) (hn : o.keys.Nodup) : withP o k v = withV o k v := by
  have hc : (bif o.kind != 3 then o.kind != 0 else false) = false := by rcases hk with e | e <;> rw [e] <;> rfl
  have hc' : (bif o.kind != 0 then o.kind != 3 else false) = false := by rcases hk with e | e <;> rw [e] <;> rfl
  unfold withP withV
  rw [hc, hc', cond_false, cond_false]
  by_cases hm : k ∈ o.keys
  · obtain ⟨j, hj⟩ := idxF_ge k o.keys 0 hm
    have h0 : 0 ≤ index o.keys k := by unfold index; rw [hj]; omega
    have hs := set_w k v o.keys o.kids 0 hl hn hm
    rw [Nat.sub_zero] at hs
    have hs : o.kids.set (index o.keys k).toNat v = wKids k v o.keys o.kids := hs
    rw [dT h0, cond_true, hs, inV_iff.2 hm]
    simp [newK, newV]
  · have h0 : ¬ 0 ≤ index o.keys k := by unfold index; rw [idxF_no k o.keys 0 hm]; decide
    have hb : inV o.keys k = false := by
      cases h2 : inV o.keys k with
      | false => rfl
      | true => exact absurd (inV_iff.1 h2) hm
    rw [dF h0, cond_false, hb, wKids_id k v o.keys o.kids hl hm]
    simp [newK, newV]
theorem sortD_nil : Pl.sortD [] = [] := Pl.sortD_eq List.Pairwise.nil fun _ => Iff.rfl
theorem sortP_eq : ∀ (n : Nat) (x : Node), wg 10000 n x = true → kd n x = true → sortP n x = sortN n x
  | 0, _, h, _ => by cases h
  | n + 1, x, hw, hk => by
    have w := wg_iff.1 hw
    have k := kd_iff.1 hk
    simp only [sortP, sortN]
    by_cases h0 : x.kids.length = 0
    · rw [eqT (show (x.kids.length : Int) = 0 by omega), cond_true]
      have hkids : x.kids = [] := List.eq_nil_of_length_eq_zero h0
      by_cases h3 : x.kind = 3
      · have hkeys : x.keys = [] := List.eq_nil_of_length_eq_zero (by rw [w.2.2.1 h3]; exact h0)
        rw [eqT h3, cond_true, hkeys, sortD_nil, List.map_nil]
        conv => lhs; rw [← node_eta x, hkeys, hkids]
      · have hkeys : x.keys = [] := List.eq_nil_of_length_eq_zero (k.1.2 h3)
        rw [eqF h3, cond_false, hkids, List.map_nil]
        conv => lhs; rw [← node_eta x, hkeys, hkids]
    · rw [eqF (show (x.kids.length : Int) ≠ 0 by omega), cond_false]
      by_cases h3 : x.kind = 3
      · rw [neF h3, eqT h3, cond_false, cond_true]
        congr 1
        refine List.map_congr_left fun q hq => ?_
        have hg := getB_g hw h3 (Pl.sortD_mem.1 hq)
        exact sortP_eq n _ (wg_get hw hg) (k.2.2 _ (getV_mem hg))
      · rw [neT h3, eqF h3, cond_true, cond_false]
        congr 1
        exact List.map_congr_left fun y hy => sortP_eq n y (w.2.2.2 y hy) (k.2.2 y hy)
end Go.Proofs.YtpmknebhacaocaaGreatDoor.Rf