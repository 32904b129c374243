/- Plain lemmas on byte strings and on sorted lists without doubles (no program in sight; no conditions). -/
import Derived.Lib.SlicesCompact
namespace Go.Proofs.YtfoflgciceckoaaGreatDoor.Pl
open Go

abbrev Str := List UInt8
theorem s_irrefl (a : Str) : ¬ a < a := List.lt_irrefl a
theorem s_trans {a b c : Str} (h : a < b) (h' : b < c) : a < c := List.lt_trans h h'
theorem s_asymm {a b : Str} (h : a < b) : ¬ b < a := fun h' => s_irrefl a (s_trans h h')
theorem s_le_iff {a b : Str} : a ≤ b ↔ ¬ b < a := Iff.rfl
theorem s_tri (a b : Str) : a < b ∨ a = b ∨ b < a := by
  by_cases h : a < b
  · exact .inl h
  · by_cases h' : b < a
    · exact .inr (.inr h')
    · exact .inr (.inl (List.le_antisymm h' h))
theorem s_le_trans {a b c : Str} (h : a ≤ b) (h' : b ≤ c) : a ≤ c := List.le_trans h h'
theorem s_lt_of_le_ne {a b : Str} (h : a ≤ b) (hn : a ≠ b) : a < b := by
  rcases s_tri a b with h1 | h1 | h1
  · exact h1
  · exact absurd h1 hn
  · exact absurd h1 h

/-- In order, without doubles. -/
def SS (l : List Str) : Prop := l.Pairwise (· < ·)
theorem ss_unique : ∀ {l m : List Str}, SS l → SS m → (∀ x, x ∈ l ↔ x ∈ m) → l = m
  | [], [], _, _, _ => rfl
  | [], b :: m, _, _, h => by have := (h b).2 List.mem_cons_self; cases this
  | a :: l, [], _, _, h => by have := (h a).1 List.mem_cons_self; cases this
  | a :: l, b :: m, hl, hm, h => by
    have hl' := List.pairwise_cons.1 hl
    have hm' := List.pairwise_cons.1 hm
    have e : a = b := by
      have h1 := (h a).1 List.mem_cons_self
      have h2 := (h b).2 List.mem_cons_self
      rcases List.mem_cons.1 h1 with h1 | h1
      · exact h1
      · rcases List.mem_cons.1 h2 with h2 | h2
        · exact h2.symm
        · exact absurd (hm'.1 a h1) (s_asymm (hl'.1 b h2))
    subst e
    rw [ss_unique hl'.2 hm'.2 fun x => ⟨fun hx => ?_, fun hx => ?_⟩]
    · rcases List.mem_cons.1 ((h x).1 (List.mem_cons_of_mem _ hx)) with e | e
      · subst e; exact absurd (hl'.1 x hx) (s_irrefl x)
      · exact e
    · rcases List.mem_cons.1 ((h x).2 (List.mem_cons_of_mem _ hx)) with e | e
      · subst e; exact absurd (hm'.1 x hx) (s_irrefl x)
      · exact e

/-- What stays behind p of a row in which neighbours that are alike become one. -/
def cpTail (p : Str) : List Str → List Str
  | [] => []
  | a :: t => if a = p then cpTail a t else a :: cpTail a t
theorem cpTail_snoc : ∀ (l : List Str) (p x : Str), cpTail p (l ++ [x]) = cpTail p l ++ (if x = (p :: l).getLastD p then [] else [x])
  | [], p, x => by simp [cpTail]
  | a :: t, p, x => by
    have ih := cpTail_snoc t a x
    have e : (p :: a :: t).getLastD p = (a :: t).getLastD a := by cases t <;> simp [List.getLastD]
    simp only [List.cons_append, cpTail, ih, e]
    split <;> simp
theorem compact_cons (a : Str) (t : List Str) : Lib.compact (a :: t) = a :: cpTail a t := by
  have key : ∀ m, m ≤ t.length → Lib.compactUpTo (a :: t).toArray (m + 1) = a :: cpTail a (t.take m) := by
    intro m
    induction m with
    | zero =>
      intro _
      rw [Lib.compactUpTo_succ, Lib.keeps_lt_one _ 0 (by decide)]
      simp [Lib.compactUpTo, cpTail]
    | succ m ih =>
      intro hm
      have hlt : m < t.length := by omega
      have e1 : (a :: t).toArray[m + 1]! = t[m] := by simp [hlt]
      have e2 : (a :: t).toArray[m + 1 - 1]! = (a :: t.take m).getLastD a := by
        cases m with
        | zero => simp
        | succ k =>
          have hk : k < t.length := by omega
          have : (a :: t.take (k + 1)).getLastD a = t[k] := by
            rw [show a :: t.take (k + 1) = (a :: t.take k) ++ [t[k]] from by rw [List.cons_append, List.take_append_getElem hk], List.getLastD_eq_getLast?, List.getLast?_concat]
            rfl
          rw [this]
          simp [hk]
      rw [Lib.compactUpTo_succ, ih (by omega), ← List.take_append_getElem hlt, cpTail_snoc, ← e2, e1]
      by_cases hx : t[m] = (a :: t).toArray[m + 1 - 1]!
      · rw [Lib.keeps_neg (by omega) (by rw [e1]; exact hx), if_pos hx]
        simp
      · rw [Lib.keeps_pos (by rw [e1]; exact hx), if_neg hx]
        simp
  have h := key t.length (Nat.le_refl _)
  rw [List.take_length] at h
  exact h
theorem compact_nil : Lib.compact ([] : List Str) = [] := rfl

theorem cpTail_spec : ∀ (l : List Str) (p : Str), (p :: l).Pairwise (· ≤ ·) → SS (p :: cpTail p l) ∧ ∀ x, x ∈ p :: cpTail p l ↔ x ∈ p :: l
  | [], p, _ => ⟨by simp [SS, cpTail], fun x => by simp [cpTail]⟩
  | a :: t, p, h => by
    have h1 := List.pairwise_cons.1 h
    obtain ⟨i1, i2⟩ := cpTail_spec t a h1.2
    unfold cpTail
    split
    · rename_i e
      subst e
      refine ⟨i1, fun x => ?_⟩
      rw [i2 x]
      simp
    · rename_i hne
      have hpa : p < a := s_lt_of_le_ne (h1.1 a List.mem_cons_self) (fun e => hne e.symm)
      refine ⟨List.pairwise_cons.2 ⟨fun x hx => ?_, i1⟩, fun x => ?_⟩
      · rcases List.mem_cons.1 hx with e | e
        · subst e; exact hpa
        · exact s_trans hpa ((List.pairwise_cons.1 i1).1 x e)
      · rw [List.mem_cons, i2 x, List.mem_cons (b := p)]
theorem cpTail_len : ∀ (l : List Str) (p : Str), (cpTail p l).length ≤ l.length
  | [], _ => Nat.le_refl _
  | a :: t, p => by
    have := cpTail_len t a
    unfold cpTail
    split
    · simp only [List.length_cons]; omega
    · simp only [List.length_cons]; omega

def msort (l : List Str) : List Str := l.mergeSort fun x y => decide (x ≤ y)
def sortD (l : List Str) : List Str := Lib.compact (msort l)
theorem msort_pw (l : List Str) : (msort l).Pairwise (· ≤ ·) := by
  have h := List.pairwise_mergeSort (le := fun x y : Str => decide (x ≤ y)) (fun a b c h h' => by
    simp only [decide_eq_true_eq] at *
    exact s_le_trans h h') (fun a b => by
    simp only [Bool.or_eq_true, decide_eq_true_eq]
    exact List.le_total a b) l
  exact h.imp (fun h => by simpa using h)
theorem msort_mem {l : List Str} {x : Str} : x ∈ msort l ↔ x ∈ l := List.mem_mergeSort
theorem msort_len (l : List Str) : (msort l).length = l.length := List.length_mergeSort l
theorem sortD_spec (l : List Str) : SS (sortD l) ∧ ∀ x, x ∈ sortD l ↔ x ∈ l := by
  have hp := msort_pw l
  have hm : ∀ x, x ∈ msort l ↔ x ∈ l := fun x => msort_mem
  unfold sortD
  generalize msort l = m at hp hm
  cases m with
  | nil => exact ⟨List.Pairwise.nil, hm⟩
  | cons a t =>
    rw [compact_cons]
    obtain ⟨h1, h2⟩ := cpTail_spec t a hp
    exact ⟨h1, fun x => (h2 x).trans (hm x)⟩
theorem sortD_mem {l : List Str} {x : Str} : x ∈ sortD l ↔ x ∈ l := (sortD_spec l).2 x
theorem sortD_eq {l m : List Str} (hs : SS m) (h : ∀ x, x ∈ m ↔ x ∈ l) : sortD l = m := ss_unique (sortD_spec l).1 hs fun x => (sortD_mem).trans (h x).symm
theorem compact_len (l : List Str) : (Lib.compact l).length ≤ l.length := by
  cases l with
  | nil => exact Nat.le_refl _
  | cons a t =>
    rw [compact_cons]
    have := cpTail_len t a
    simp only [List.length_cons]
    omega
theorem sortD_len (l : List Str) : (sortD l).length ≤ l.length := by
  have := compact_len (msort l)
  rw [msort_len] at this
  exact this
end Go.Proofs.YtfoflgciceckoaaGreatDoor.Pl
