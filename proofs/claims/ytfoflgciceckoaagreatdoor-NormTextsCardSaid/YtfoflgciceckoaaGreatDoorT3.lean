/- The reference's words. -/
import Derived.Test.YtfoflgciceckoaaGreatDoorT2
namespace Go.Proofs.YtfoflgciceckoaaGreatDoor.Rf
open Go Go.RowKit Go.Sort Go.Proofs.YtfoflgciceckoaaGreatDoor.Mir
def blankB (c : Int) : Bool := bif c == 32 then true else c == 9
/-! ### Words, by definition -/
theorem msT {n : Nat} (h : n ≤ 4611686018427387904) : decide (n ≤ maxStr) = true := dT h
theorem drop_at {s : List UInt8} {a : Nat} (h : a < s.length) : s.drop a = s.getD a 0 :: s.drop (a + 1) := by
  rw [List.drop_eq_getElem_cons h, List.getD, List.getElem?_eq_getElem h]; rfl
/-- The place of a byte; the length, if there is none. -/
def fiB (b : Int) : List UInt8 → Nat
  | [] => 0
  | c :: t => bif (((c.toNat : Nat) : Int) == b) then 0 else fiB b t + 1
theorem fiB_le (b : Int) : ∀ t, fiB b t ≤ t.length
  | [] => Nat.le_refl _
  | c :: t => by
    unfold fiB
    have := fiB_le b t
    cases (((c.toNat : Nat) : Int) == b) with
    | true => rw [cond_true]; exact Nat.zero_le _
    | false => rw [cond_false, List.length_cons]; omega
/-- What stands between double quotes, and how far it reaches. -/
def dblV : List UInt8 → Option (List UInt8 × Nat)
  | [] => none
  | [c] => bif (((c.toNat : Nat) : Int) == 34) then some ([], 1) else none
  | c :: d :: t => bif (((c.toNat : Nat) : Int) == 34) then some ([], 1) else bif (((c.toNat : Nat) : Int) == 92) then
      (dblV t).map fun q => ((bif (bif (((d.toNat : Nat) : Int) != 34) then (((d.toNat : Nat) : Int) != 92) else false) then [c] else []) ++ d :: q.1, q.2 + 2)
      else (dblV (d :: t)).map fun q => (c :: q.1, q.2 + 1)
theorem dblV_le : ∀ (t : List UInt8) (q : List UInt8 × Nat), dblV t = some q → q.2 ≤ t.length ∧ q.1.length + 1 ≤ q.2
  | [], q, h => by cases h
  | [c], q, h => by
    unfold dblV at h
    cases hc : (((c.toNat : Nat) : Int) == 34) with
    | true => rw [hc] at h; cases h; exact ⟨Nat.le_refl _, Nat.le_refl _⟩
    | false => rw [hc] at h; cases h
  | c :: d :: t, q, h => by
    unfold dblV at h
    cases hc : (((c.toNat : Nat) : Int) == 34) with
    | true => rw [hc] at h; cases h; exact ⟨by simp only [List.length_cons]; omega, Nat.le_refl _⟩
    | false =>
      rw [hc, cond_false] at h
      cases h2 : (((c.toNat : Nat) : Int) == 92) with
      | true =>
        rw [h2, cond_true] at h
        cases ht : dblV t with
        | none => rw [ht] at h; cases h
        | some p =>
          rw [ht] at h
          cases h
          have := dblV_le t p ht
          refine ⟨by simp only [List.length_cons]; omega, ?_⟩
          simp only [List.length_append, List.length_cons]
          cases (bif (((d.toNat : Nat) : Int) != 34) then (((d.toNat : Nat) : Int) != 92) else false) <;> simp only [cond_true, cond_false, List.length_cons, List.length_nil] <;> omega
      | false =>
        rw [h2, cond_false] at h
        cases ht : dblV (d :: t) with
        | none => rw [ht] at h; cases h
        | some p =>
          rw [ht] at h
          cases h
          have := dblV_le (d :: t) p ht
          simp only [List.length_cons] at this ⊢
          omega
/-- A piece of a word, and how long it is. -/
def pcV : List UInt8 → Option (List UInt8 × Nat)
  | [] => none
  | c :: t => bif (((c.toNat : Nat) : Int) == 92) then (match t with
      | [] => none
      | d :: _ => some ([d], 2))
    else bif (((c.toNat : Nat) : Int) == 39) then (bif decide (fiB 39 t < t.length) then some (t.take (fiB 39 t), fiB 39 t + 2) else none)
    else bif (((c.toNat : Nat) : Int) != 34) then some ([c], 1)
    else (dblV t).map fun q => (q.1, q.2 + 1)
theorem pcV_le {t : List UInt8} {q : List UInt8 × Nat} (h : pcV t = some q) : q.2 ≤ t.length ∧ 1 ≤ q.2 ∧ q.1.length ≤ q.2 := by
  cases t with
  | nil => cases h
  | cons c t =>
    simp only [pcV] at h
    cases h1 : (((c.toNat : Nat) : Int) == 92) with
    | true =>
      rw [h1, cond_true] at h
      cases t with
      | nil => cases h
      | cons d t => cases h; simp
    | false =>
      rw [h1, cond_false] at h
      cases h2 : (((c.toNat : Nat) : Int) == 39) with
      | true =>
        rw [h2, cond_true] at h
        by_cases hf : fiB 39 t < t.length
        · rw [dT hf] at h
          cases h
          simp only [List.length_cons, List.length_take]
          omega
        · rw [dF hf] at h; cases h
      | false =>
        rw [h2, cond_false] at h
        cases h3 : (((c.toNat : Nat) : Int) != 34) with
        | true => rw [h3] at h; cases h; simp
        | false =>
          rw [h3, cond_false] at h
          cases ht : dblV t with
          | none => rw [ht] at h; cases h
          | some p =>
            rw [ht] at h
            cases h
            have := dblV_le t p ht
            simp only [List.length_cons]
            omega
/-- Word by word: the word that is begun, whether there is one, and the words that are whole. -/
def bareA : Nat → List UInt8 → List UInt8 → Bool → List (List UInt8) → Option (List (List UInt8))
  | 0, _, _, _, _ => none
  | _ + 1, [], w, b, out => some (bif b then out ++ [w] else out)
  | n + 1, c :: t, w, b, out => bif blankB ((c.toNat : Nat) : Int) then bareA n t (bif b then [] else w) false (bif b then out ++ [w] else out)
      else (match pcV (c :: t) with
        | none => none
        | some q => bareA n ((c :: t).drop q.2) (w ++ q.1) true out)
def splO (s : List UInt8) : Option (List (List UInt8)) := bareA (s.length + 1) s [] false []
def finV : Option (List (List UInt8)) → List (List UInt8)
  | none => []
  | some l => bif decide ((32 : Int) < (l.length : Int)) then [] else l
def finE : Option (List (List UInt8)) → Int
  | none => 3
  | some l => bif decide ((32 : Int) < (l.length : Int)) then 9 else 0
def splV (s : List UInt8) : List (List UInt8) := finV (splO s)
def splE (s : List UInt8) : Int := finE (splO s)
theorem finV_len (o : Option (List (List UInt8))) : (finV o).length ≤ 32 := by
  cases o with
  | none => exact Nat.zero_le _
  | some l =>
    simp only [finV]
    by_cases h : (32 : Int) < (l.length : Int)
    · rw [dT h]; exact Nat.zero_le _
    · rw [dF h, cond_false]; omega
theorem bareA_end {n : Nat} {s : List UInt8} {i : Nat} (hi : s.length ≤ i) (w : List UInt8) (b : Bool) (out : List (List UInt8)) : bareA (n + 1) (s.drop i) w b out = some (bif b then out ++ [w] else out) := by
  rw [List.drop_eq_nil_of_le hi]; rfl
theorem bareA_blank {n : Nat} {s : List UInt8} {i : Nat} (hi : i < s.length) (hb : blankB (((s.getD i 0).toNat : Nat) : Int) = true) (w : List UInt8) (b : Bool) (out : List (List UInt8)) :
    bareA (n + 1) (s.drop i) w b out = bareA n (s.drop (i + 1)) (bif b then [] else w) false (bif b then out ++ [w] else out) := by
  rw [drop_at hi, bareA, hb, cond_true]
theorem bareA_piece {n : Nat} {s : List UInt8} {i : Nat} (hi : i < s.length) (hb : blankB (((s.getD i 0).toNat : Nat) : Int) = false) (w : List UInt8) (b : Bool) (out : List (List UInt8)) :
    bareA (n + 1) (s.drop i) w b out = (match pcV (s.drop i) with
      | none => none
      | some q => bareA n (s.drop (i + q.2)) (w ++ q.1) true out) := by
  rw [drop_at hi, bareA, hb, cond_false, ← drop_at hi]
  cases pcV (s.drop i) with
  | none => rfl
  | some q => simp only [List.drop_drop]
/-! ### The reference's words (15), exactly -/
noncomputable def rblank_W : FnW E := fn1 (E := E) .byte .bool (fun _ => true) blankB
def rblank_id : FuncId := 137
noncomputable def rblank_O : Oracle E := orac [] [] [] []
noncomputable def rblank_H : Hint E := Hint.mk [] [] [] [] []
noncomputable def rblank_t (_G : Nat → ASt E → Option (List (TV E))) (x0 : Int) : Option (List (TV E)) :=
  some [⟨.bool, (bif (x0 == (32 : Int)) then true else (x0 == (9 : Int)))⟩]
theorem rblank_e (G : Nat → ASt E → Option (List (TV E))) (x0 : Int) : runE rblank_O rblank_H G Tryz.f137 [⟨.byte, x0⟩] = rblank_t G x0 := by kernel_rfl
theorem rblank_f : Tryz.prog.funcs[137]? = some Tryz.f137 := by kernel_rfl
theorem rblank_n : (Tryz.f137.name == "runtime.NumGoroutine") = false := by kernel_rfl
theorem rblank_b : Tryz.f137.body.isNone = false := by kernel_rfl
theorem rblank_ex : ∃ fn, Tryz.prog.funcs[137]? = some fn ∧ (fn.name == "runtime.NumGoroutine") = false ∧ fn.body.isNone = false := ⟨Tryz.f137, rblank_f, rblank_n, rblank_b⟩
theorem rblank_hO : OracleOk E rblank_O := orac_ok .nil .nil .nil .nil
theorem rblank_ok_of (h : ∀ (x0 : Int), rblank_t (Gr E Tryz.f137 [⟨.bool, blankB x0⟩]) x0 = some [⟨.bool, blankB x0⟩]) : FnOk E rblank_id rblank_W := fn1_ok rblank_hO mix rblank_f rblank_n rblank_b (fun x0 _ => (rblank_e _ x0).trans (h x0))
theorem rblank_ok : FnOk E rblank_id rblank_W := rblank_ok_of fun c => rfl
def okPc (s : List UInt8) (a : Int) : Bool := decide (s.length ≤ 1000000) && decide (0 ≤ a) && decide (a < (s.length : Int))
theorem okPc_iff {s : List UInt8} {a : Int} : okPc s a = true ↔ (s.length ≤ 1000000 ∧ 0 ≤ a) ∧ a < (s.length : Int) := by simp [okPc]
def pcR (s : List UInt8) (a : Int) : List UInt8 := match pcV (s.drop a.toNat) with
  | none => []
  | some q => q.1
def pcN (s : List UInt8) (a : Int) : Int := match pcV (s.drop a.toNat) with
  | none => -1
  | some q => a + (q.2 : Int)
noncomputable def rpiece_W : FnW E := fn22 (E := E) .str .int .str .int okPc pcR pcN
def rpiece_id : FuncId := 138
noncomputable def rpiece_O : Oracle E := orac [] [] [] []
noncomputable def rpiece_H : Hint E := Hint.mk [(0, [0, 1, 7]), (1, [0, 1, 8])] [] [] [] []
noncomputable def rpiece_C0 (v0 : List UInt8) (v1 v2 : Int) : ASt E := ASt.mk 109 [(0, .d (.str v0)), (1, .d (.int .i64 v1)), (7, .d (.int .i64 v2))] [] 0
noncomputable def rpiece_C1 (v0 : List UInt8) (v1 : Int) (v2 : List UInt8) : ASt E := ASt.mk 109 [(0, .d (.str v0)), (1, .d (.int .i64 v1)), (8, .d (.str v2))] [] 0
noncomputable def rpiece_t (G : Nat → ASt E → Option (List (TV E))) (x0 : List UInt8) (x1 : Int) : Option (List (TV E)) :=
  bif (decide ((0 : Int) ≤ x1) && decide (x1 < (x0.length : Int))) then (bif ((((List.getD x0 (Int.toNat x1) 0).toNat : Nat) : Int) == (92 : Int)) then (bif ((w64 (x1 + (1 : Int))) == (x0.length : Int)) then some [⟨.str, ([] : List UInt8)⟩, ⟨.int, (-1 : Int)⟩] else (bif (decide ((0 : Int) ≤ (w64 (x1 + (1 : Int)))) && decide ((w64 (x1 + (1 : Int))) ≤ (w64 (x1 + (2 : Int)))) && decide ((w64 (x1 + (2 : Int))) ≤ (x0.length : Int))) then some [⟨.str, (List.take (Int.toNat (w64 (x1 + (2 : Int))) - Int.toNat (w64 (x1 + (1 : Int)))) (List.drop (Int.toNat (w64 (x1 + (1 : Int)))) x0))⟩, ⟨.int, (w64 (x1 + (2 : Int)))⟩] else none)) else (bif ((((List.getD x0 (Int.toNat x1) 0).toNat : Nat) : Int) == (39 : Int)) then G 0 (rpiece_C0 x0 x1 (w64 (x1 + (1 : Int)))) else (bif ((((List.getD x0 (Int.toNat x1) 0).toNat : Nat) : Int) != (34 : Int)) then (bif (decide ((0 : Int) ≤ x1) && decide (x1 ≤ (w64 (x1 + (1 : Int)))) && decide ((w64 (x1 + (1 : Int))) ≤ (x0.length : Int))) then some [⟨.str, (List.take (Int.toNat (w64 (x1 + (1 : Int))) - Int.toNat x1) (List.drop (Int.toNat x1) x0))⟩, ⟨.int, (w64 (x1 + (1 : Int)))⟩] else none) else G 1 (rpiece_C1 x0 (w64 (x1 + (1 : Int))) ([] : List UInt8))))) else none
theorem rpiece_e (G : Nat → ASt E → Option (List (TV E))) (x0 : List UInt8) (x1 : Int) : runE rpiece_O rpiece_H G Tryz.f138 [⟨.str, x0⟩, ⟨.int, x1⟩] = rpiece_t G x0 x1 := by kernel_rfl
noncomputable def rpiece_t0 (G : Nat → ASt E → Option (List (TV E))) (v0 : List UInt8) (v1 v2 : Int) : Option (List (TV E)) :=
  bif (decide (v2 < (v0.length : Int))) then (bif (decide ((0 : Int) ≤ v2) && decide (v2 < (v0.length : Int))) then (bif ((((List.getD v0 (Int.toNat v2) 0).toNat : Nat) : Int) == (39 : Int)) then (bif (decide ((0 : Int) ≤ (w64 (v1 + (1 : Int)))) && decide ((w64 (v1 + (1 : Int))) ≤ v2) && decide (v2 ≤ (v0.length : Int))) then some [⟨.str, (List.take (Int.toNat v2 - Int.toNat (w64 (v1 + (1 : Int)))) (List.drop (Int.toNat (w64 (v1 + (1 : Int)))) v0))⟩, ⟨.int, (w64 (v2 + (1 : Int)))⟩] else none) else G 0 (rpiece_C0 v0 v1 (w64 (v2 + (1 : Int))))) else none) else some [⟨.str, ([] : List UInt8)⟩, ⟨.int, (-1 : Int)⟩]
theorem rpiece_l0 (G : Nat → ASt E → Option (List (TV E))) (v0 : List UInt8) (v1 v2 : Int) : runL rpiece_O rpiece_H G Tryz.f138 0 (rpiece_C0 v0 v1 v2) = rpiece_t0 G v0 v1 v2 := by kernel_rfl
noncomputable def rpiece_t1 (G : Nat → ASt E → Option (List (TV E))) (v0 : List UInt8) (v1 : Int) (v2 : List UInt8) : Option (List (TV E)) :=
  bif (decide (v1 < (v0.length : Int))) then (bif (decide ((0 : Int) ≤ v1) && decide (v1 < (v0.length : Int))) then (bif ((((List.getD v0 (Int.toNat v1) 0).toNat : Nat) : Int) == (34 : Int)) then some [⟨.str, v2⟩, ⟨.int, (w64 (v1 + (1 : Int)))⟩] else (bif (decide ((0 : Int) ≤ v1) && decide (v1 < (v0.length : Int))) then (bif ((((List.getD v0 (Int.toNat v1) 0).toNat : Nat) : Int) == (92 : Int)) then (bif ((w64 (v1 + (1 : Int))) == (v0.length : Int)) then some [⟨.str, ([] : List UInt8)⟩, ⟨.int, (-1 : Int)⟩] else (bif (decide ((0 : Int) ≤ (w64 (v1 + (1 : Int)))) && decide ((w64 (v1 + (1 : Int))) < (v0.length : Int))) then (bif ((decide ((0 : Int) ≤ (w64 (v1 + (1 : Int)))) && decide ((w64 (v1 + (1 : Int))) < (v0.length : Int))) || !((((List.getD v0 (Int.toNat (w64 (v1 + (1 : Int)))) 0).toNat : Nat) : Int) != (34 : Int))) then (bif (bif ((((List.getD v0 (Int.toNat (w64 (v1 + (1 : Int)))) 0).toNat : Nat) : Int) != (34 : Int)) then ((((List.getD v0 (Int.toNat (w64 (v1 + (1 : Int)))) 0).toNat : Nat) : Int) != (92 : Int)) else false) then (bif (decide ((0 : Int) ≤ v1) && decide (v1 ≤ (w64 (v1 + (1 : Int)))) && decide ((w64 (v1 + (1 : Int))) ≤ (v0.length : Int))) then (bif (decide (v2.length + (List.take (Int.toNat (w64 (v1 + (1 : Int))) - Int.toNat v1) (List.drop (Int.toNat v1) v0)).length ≤ maxStr)) then (bif (decide ((0 : Int) ≤ (w64 (v1 + (1 : Int)))) && decide ((w64 (v1 + (1 : Int))) ≤ (w64 ((w64 (v1 + (1 : Int))) + (1 : Int)))) && decide ((w64 ((w64 (v1 + (1 : Int))) + (1 : Int))) ≤ (v0.length : Int))) then (bif (decide ((v2 ++ (List.take (Int.toNat (w64 (v1 + (1 : Int))) - Int.toNat v1) (List.drop (Int.toNat v1) v0))).length + (List.take (Int.toNat (w64 ((w64 (v1 + (1 : Int))) + (1 : Int))) - Int.toNat (w64 (v1 + (1 : Int)))) (List.drop (Int.toNat (w64 (v1 + (1 : Int)))) v0)).length ≤ maxStr)) then G 1 (rpiece_C1 v0 (w64 ((w64 (v1 + (1 : Int))) + (1 : Int))) ((v2 ++ (List.take (Int.toNat (w64 (v1 + (1 : Int))) - Int.toNat v1) (List.drop (Int.toNat v1) v0))) ++ (List.take (Int.toNat (w64 ((w64 (v1 + (1 : Int))) + (1 : Int))) - Int.toNat (w64 (v1 + (1 : Int)))) (List.drop (Int.toNat (w64 (v1 + (1 : Int)))) v0)))) else none) else none) else none) else none) else (bif (decide ((0 : Int) ≤ (w64 (v1 + (1 : Int)))) && decide ((w64 (v1 + (1 : Int))) ≤ (w64 ((w64 (v1 + (1 : Int))) + (1 : Int)))) && decide ((w64 ((w64 (v1 + (1 : Int))) + (1 : Int))) ≤ (v0.length : Int))) then (bif (decide (v2.length + (List.take (Int.toNat (w64 ((w64 (v1 + (1 : Int))) + (1 : Int))) - Int.toNat (w64 (v1 + (1 : Int)))) (List.drop (Int.toNat (w64 (v1 + (1 : Int)))) v0)).length ≤ maxStr)) then G 1 (rpiece_C1 v0 (w64 ((w64 (v1 + (1 : Int))) + (1 : Int))) (v2 ++ (List.take (Int.toNat (w64 ((w64 (v1 + (1 : Int))) + (1 : Int))) - Int.toNat (w64 (v1 + (1 : Int)))) (List.drop (Int.toNat (w64 (v1 + (1 : Int)))) v0)))) else none) else none)) else none) else none)) else (bif (decide ((0 : Int) ≤ v1) && decide (v1 ≤ (w64 (v1 + (1 : Int)))) && decide ((w64 (v1 + (1 : Int))) ≤ (v0.length : Int))) then (bif (decide (v2.length + (List.take (Int.toNat (w64 (v1 + (1 : Int))) - Int.toNat v1) (List.drop (Int.toNat v1) v0)).length ≤ maxStr)) then G 1 (rpiece_C1 v0 (w64 (v1 + (1 : Int))) (v2 ++ (List.take (Int.toNat (w64 (v1 + (1 : Int))) - Int.toNat v1) (List.drop (Int.toNat v1) v0)))) else none) else none)) else none)) else none) else some [⟨.str, ([] : List UInt8)⟩, ⟨.int, (-1 : Int)⟩]
theorem rpiece_l1 (G : Nat → ASt E → Option (List (TV E))) (v0 : List UInt8) (v1 : Int) (v2 : List UInt8) : runL rpiece_O rpiece_H G Tryz.f138 1 (rpiece_C1 v0 v1 v2) = rpiece_t1 G v0 v1 v2 := by kernel_rfl
theorem rpiece_f : Tryz.prog.funcs[138]? = some Tryz.f138 := by kernel_rfl
theorem rpiece_n : (Tryz.f138.name == "runtime.NumGoroutine") = false := by kernel_rfl
theorem rpiece_b : Tryz.f138.body.isNone = false := by kernel_rfl
theorem rpiece_ex : ∃ fn, Tryz.prog.funcs[138]? = some fn ∧ (fn.name == "runtime.NumGoroutine") = false ∧ fn.body.isNone = false := ⟨Tryz.f138, rpiece_f, rpiece_n, rpiece_b⟩
theorem rpiece_hO : OracleOk E rpiece_O := orac_ok .nil .nil .nil .nil
theorem rpiece_s0 {res : List (TV E)} {v0 : List UInt8} {v1 v2 : Int} (h : rpiece_t0 (Gr E Tryz.f138 res) v0 v1 v2 = some res) : Ev E Tryz.f138 res 0 (rpiece_C0 v0 v1 v2) := Ev.step rpiece_hO mix ((rpiece_l0 _ v0 v1 v2).trans h)
theorem rpiece_s1 {res : List (TV E)} {v0 : List UInt8} {v1 : Int} {v2 : List UInt8} (h : rpiece_t1 (Gr E Tryz.f138 res) v0 v1 v2 = some res) : Ev E Tryz.f138 res 1 (rpiece_C1 v0 v1 v2) := Ev.step rpiece_hO mix ((rpiece_l1 _ v0 v1 v2).trans h)
theorem rpiece_ok_of (h : ∀ (x0 : List UInt8) (x1 : Int), okPc x0 x1 = true → rpiece_t (Gr E Tryz.f138 [⟨.str, pcR x0 x1⟩, ⟨.int, pcN x0 x1⟩]) x0 x1 = some [⟨.str, pcR x0 x1⟩, ⟨.int, pcN x0 x1⟩]) : FnOk E rpiece_id rpiece_W := fn22_ok rpiece_hO mix rpiece_f rpiece_n rpiece_b (fun x0 x1 hk => (rpiece_e _ x0 x1).trans (h x0 x1 hk))
def pRes (o : Option (List UInt8 × Nat)) (out : List UInt8) (a : Nat) : List (TV E) := match o with
  | none => [⟨.str, ([] : List UInt8)⟩, ⟨.int, (-1 : Int)⟩]
  | some q => [⟨.str, out ++ q.1⟩, ⟨.int, (a : Int) + (q.2 : Int)⟩]
theorem rpiece_0 (s : List UInt8) (hs : s.length ≤ 1000000) (a : Nat) : ∀ (m i : Nat), s.length - i = m → a + 1 ≤ i → i ≤ s.length → fiB 39 (s.drop (a + 1)) + (a + 1) = i + fiB 39 (s.drop i) →
    Ev E Tryz.f138 (pRes (bif decide (fiB 39 (s.drop (a + 1)) < (s.drop (a + 1)).length) then some ((s.drop (a + 1)).take (fiB 39 (s.drop (a + 1))), fiB 39 (s.drop (a + 1)) + 2) else none) [] a) 0 (rpiece_C0 s a i) := by
  intro m
  induction m with
  | zero =>
    intro i h1 h2 h3 h4
    refine rpiece_s0 ?_
    simp only [rpiece_t0, dge (show s.length ≤ i by omega), cond_false]
    rw [List.drop_eq_nil_of_le (show s.length ≤ i by omega)] at h4
    have h4 : fiB 39 (s.drop (a + 1)) + (a + 1) = i + 0 := h4
    rw [dF (show ¬ fiB 39 (s.drop (a + 1)) < (s.drop (a + 1)).length by rw [List.length_drop]; omega)]
    rfl
  | succ m ih =>
    intro i h1 h2 h3 h4
    have hi : i < s.length := by omega
    have e1 : w64 ((i : Int) + 1) = ((i + 1 : Nat) : Int) := by rw [w64_id (by omega) (by omega)]; omega
    have e2 : w64 ((a : Int) + 1) = ((a + 1 : Nat) : Int) := by rw [w64_id (by omega) (by omega)]; omega
    refine rpiece_s0 ?_
    simp only [rpiece_t0, dlt hi, d0, Bool.and_self, cond_true, e1, e2, Int.toNat_natCast, dle h2, dle h3]
    rw [drop_at hi, fiB] at h4
    cases hc : ((List.getD s i 0).toNat : Int) == 39 with
    | true =>
      rw [hc, cond_true] at h4
      rw [dT (show fiB 39 (s.drop (a + 1)) < (s.drop (a + 1)).length by rw [List.length_drop]; omega), show i - (a + 1) = fiB 39 (s.drop (a + 1)) by omega, show ((i + 1 : Nat) : Int) = (a : Int) + ((fiB 39 (s.drop (a + 1)) + 2 : Nat) : Int) by omega]
      rfl
    | false =>
      rw [hc, cond_false] at h4
      exact Gr_of (ih (i + 1) (by omega) (by omega) (by omega) (by omega))
theorem rpiece_1 (s : List UInt8) (hs : s.length ≤ 1000000) : ∀ (m a : Nat) (out : List UInt8), s.length - a ≤ m → a ≤ s.length → out.length ≤ a →
    Ev E Tryz.f138 (pRes (dblV (s.drop a)) out a) 1 (rpiece_C1 s a out) := by
  intro m
  induction m with
  | zero =>
    intro a out h1 h3 h4
    refine rpiece_s1 ?_
    simp only [rpiece_t1, dge (show s.length ≤ a by omega), cond_false]
    rw [List.drop_eq_nil_of_le (show s.length ≤ a by omega)]
    rfl
  | succ m ih =>
    intro a out h1 h3 h4
    refine rpiece_s1 ?_
    by_cases hi : a < s.length
    · have e1 : w64 ((a : Int) + 1) = ((a + 1 : Nat) : Int) := by rw [w64_id (by omega) (by omega)]; omega
      have e2 : w64 (((a + 1 : Nat) : Int) + 1) = ((a + 2 : Nat) : Int) := by rw [w64_id (by omega) (by omega)]; omega
      have t1 : List.take (a + 1 - a) (List.drop a s) = [s.getD a 0] := by rw [drop_at hi, show a + 1 - a = 1 by omega]; rfl
      simp only [rpiece_t1, dlt hi, d0, Bool.and_self, cond_true, e1, e2, Int.toNat_natCast, dle (show a ≤ a + 1 by omega), dle (show a + 1 ≤ s.length by omega), t1]
      by_cases hl : a + 1 < s.length
      · have t2 : List.take (a + 2 - (a + 1)) (List.drop (a + 1) s) = [s.getD (a + 1) 0] := by rw [drop_at hl, show a + 2 - (a + 1) = 1 by omega]; rfl
        rw [drop_at hi, drop_at hl, dblV, ← drop_at hl]
        cases ((List.getD s a 0).toNat : Int) == 34 with
        | true =>
          simp only [cond_true, pRes, List.append_nil]
          rfl
        | false =>
          simp only [cond_false]
          cases ((List.getD s a 0).toNat : Int) == 92 with
          | false =>
            rw [msT (show out.length + [s.getD a 0].length ≤ 4611686018427387904 by rw [List.length_singleton]; omega)]
            have := ih (a + 1) (out ++ [s.getD a 0]) (by omega) (by omega) (by rw [List.length_append, List.length_singleton]; omega)
            simp only [cond_true, cond_false]
            cases hd : dblV (s.drop (a + 1)) with
            | none => rw [hd] at this; exact Gr_of this
            | some q =>
              rw [hd] at this
              simp only [pRes, Option.map_some, List.append_assoc, List.singleton_append] at this ⊢
              rw [show (a : Int) + ((q.2 + 1 : Nat) : Int) = ((a + 1 : Nat) : Int) + (q.2 : Int) by omega]
              exact Gr_of this
          | true =>
            simp only [cond_true, eqF (show ((a + 1 : Nat) : Int) ≠ (s.length : Int) by omega), cond_false, dlt hl, Bool.true_or, dle (show a + 1 ≤ a + 2 by omega), dle (show a + 2 ≤ s.length by omega), Bool.and_self, t2]
            rw [msT (show out.length + [s.getD a 0].length ≤ 4611686018427387904 by rw [List.length_singleton]; omega), msT (show (out ++ [s.getD a 0]).length + [s.getD (a + 1) 0].length ≤ 4611686018427387904 by rw [List.length_append, List.length_singleton, List.length_singleton]; omega),
              msT (show out.length + [s.getD (a + 1) 0].length ≤ 4611686018427387904 by rw [List.length_singleton]; omega)]
            simp only [cond_true]
            have hb : ∀ b : Bool, Ev E Tryz.f138 (pRes ((dblV (s.drop (a + 1 + 1))).map fun q => ((bif b then [s.getD a 0] else []) ++ s.getD (a + 1) 0 :: q.1, q.2 + 2)) out a) 1 (rpiece_C1 s ((a + 2 : Nat) : Int) (bif b then out ++ [s.getD a 0] ++ [s.getD (a + 1) 0] else out ++ [s.getD (a + 1) 0])) := by
              intro b
              have := ih (a + 2) (bif b then out ++ [s.getD a 0] ++ [s.getD (a + 1) 0] else out ++ [s.getD (a + 1) 0]) (by omega) (by omega) (by cases b <;> simp only [cond_true, cond_false, List.length_append, List.length_singleton] <;> omega)
              cases hd : dblV (s.drop (a + 1 + 1)) with
              | none => rw [hd] at this; exact this
              | some q =>
                rw [hd] at this
                simp only [pRes, Option.map_some] at this ⊢
                rw [show (a : Int) + ((q.2 + 2 : Nat) : Int) = ((a + 2 : Nat) : Int) + (q.2 : Int) by omega]
                cases b <;> simpa only [cond_true, cond_false, List.append_assoc, List.singleton_append, List.nil_append, List.cons_append] using this
            cases (bif ((List.getD s (a + 1) 0).toNat : Int) != 34 then ((List.getD s (a + 1) 0).toNat : Int) != 92 else false) with
            | true => exact Gr_of (hb true)
            | false => exact Gr_of (hb false)
      · have hl' : a + 1 = s.length := by omega
        rw [drop_at hi, List.drop_eq_nil_of_le (show s.length ≤ a + 1 by omega), dblV]
        cases ((List.getD s a 0).toNat : Int) == 34 with
        | true =>
          simp only [cond_true, pRes, List.append_nil]
          rfl
        | false =>
          simp only [cond_false]
          cases ((List.getD s a 0).toNat : Int) == 92 with
          | true =>
            simp only [cond_true, eqT (show ((a + 1 : Nat) : Int) = (s.length : Int) by omega)]
            rfl
          | false =>
            rw [msT (show out.length + [s.getD a 0].length ≤ 4611686018427387904 by rw [List.length_singleton]; omega)]
            have := ih (a + 1) (out ++ [s.getD a 0]) (by omega) (by omega) (by rw [List.length_append, List.length_singleton]; omega)
            rw [List.drop_eq_nil_of_le (show s.length ≤ a + 1 by omega)] at this
            exact Gr_of this
    · simp only [rpiece_t1, dge (show s.length ≤ a by omega), cond_false]
      rw [List.drop_eq_nil_of_le (show s.length ≤ a by omega)]
      rfl
theorem rpiece_ok : FnOk E rpiece_id rpiece_W := rpiece_ok_of fun s a hk => by
  obtain ⟨⟨hs, h0⟩, h1⟩ := okPc_iff.1 hk
  obtain ⟨n, rfl⟩ : ∃ n : Nat, a = n := ⟨a.toNat, by omega⟩
  have hn : n < s.length := by omega
  have e1 : w64 ((n : Int) + 1) = ((n + 1 : Nat) : Int) := by rw [w64_id (by omega) (by omega)]; omega
  have e2 : w64 ((n : Int) + 2) = ((n + 2 : Nat) : Int) := by rw [w64_id (by omega) (by omega)]; omega
  have e : [⟨.str, pcR s n⟩, ⟨.int, pcN s n⟩] = pRes (pcV (s.drop n)) [] n := by
    unfold pcR pcN pRes
    rw [Int.toNat_natCast]
    cases pcV (s.drop n) <;> rfl
  rw [e]
  simp only [rpiece_t, dlt hn, d0, Bool.and_self, cond_true, e1, e2, Int.toNat_natCast, dle (show n ≤ n + 1 by omega), dle (show n + 1 ≤ s.length by omega)]
  have p0 := rpiece_0 s hs n _ (n + 1) rfl (Nat.le_refl _) (by omega) (by omega)
  have p1 := rpiece_1 s hs _ (n + 1) [] (Nat.le_refl _) (by omega) (Nat.zero_le _)
  rw [drop_at hn]
  simp only [pcV]
  cases ((List.getD s n 0).toNat : Int) == 92 with
  | true =>
    simp only [cond_true]
    by_cases hl : n + 1 = s.length
    · rw [eqT (show ((n + 1 : Nat) : Int) = (s.length : Int) by omega), List.drop_eq_nil_of_le (show s.length ≤ n + 1 by omega)]
      rfl
    · rw [eqF (show ((n + 1 : Nat) : Int) ≠ (s.length : Int) by omega), drop_at (show n + 1 < s.length by omega)]
      simp only [cond_false, dle (show n + 1 ≤ n + 2 by omega), dle (show n + 2 ≤ s.length by omega), Bool.and_self, cond_true]
      rw [show n + 2 - (n + 1) = 1 by omega]
      rfl
  | false =>
    simp only [cond_false]
    cases ((List.getD s n 0).toNat : Int) == 39 with
    | true => exact Gr_of p0
    | false =>
      cases ((List.getD s n 0).toNat : Int) != 34 with
      | true =>
        rw [show n + 1 - n = 1 by omega]
        rfl
      | false =>
        cases hd : dblV (s.drop (n + 1)) with
        | none => rw [hd] at p1; exact Gr_of p1
        | some q =>
          rw [hd] at p1
          simp only [pRes, cond_false, Option.map_some] at p1 ⊢
          rw [show (n : Int) + ((q.2 + 1 : Nat) : Int) = ((n + 1 : Nat) : Int) + (q.2 : Int) by omega]
          exact Gr_of p1
noncomputable def rwsplit_W : FnW E := fn12 (E := E) .str .l_str .api_Errno okL1 splV splE
def rwsplit_id : FuncId := 89
noncomputable def rwsplit_O : Oracle E := orac [(137, rblank_W), (138, rpiece_W)] [] [] []
noncomputable def rwsplit_H : Hint E := Hint.mk [(0, [0, 4, 5]), (1, [0, 4, 5, 6])] [] [] [] []
noncomputable def rwsplit_C0 (v0 : List UInt8) (v1 : Nat) (v2 : Int) (v3 : List (List UInt8)) : ASt E := ASt.mk 51 [(0, .d (.str v0)), (4, .row .str v1 0), (5, .d (.int .i64 v2))] [(0, .row .str v3)] 1
noncomputable def rwsplit_C1 (v0 : List UInt8) (v1 : Nat) (v2 : Int) (v3 : List UInt8) (v4 : List (List UInt8)) : ASt E := ASt.mk 51 [(0, .d (.str v0)), (4, .row .str v1 0), (5, .d (.int .i64 v2)), (6, .d (.str v3))] [(0, .row .str v4)] 1
noncomputable def rwsplit_t (G : Nat → ASt E → Option (List (TV E))) (x0 : List UInt8) : Option (List (TV E)) :=
  G 0 (rwsplit_C0 x0 0 (0 : Int) ([] : List (List UInt8)))
theorem rwsplit_e (G : Nat → ASt E → Option (List (TV E))) (x0 : List UInt8) : runE rwsplit_O rwsplit_H G Tryz.f89 [⟨.str, x0⟩] = rwsplit_t G x0 := by kernel_rfl
noncomputable def rwsplit_t0 (G : Nat → ASt E → Option (List (TV E))) (v0 : List UInt8) (v1 : Nat) (v2 : Int) (v3 : List (List UInt8)) : Option (List (TV E)) :=
  bif (decide (v2 < (v0.length : Int))) then (bif (decide ((0 : Int) ≤ v2) && decide (v2 < (v0.length : Int))) then (bif (blankB (((List.getD v0 (Int.toNat v2) 0).toNat : Nat) : Int)) then G 0 (rwsplit_C0 v0 v1 (w64 (v2 + (1 : Int))) v3) else G 1 (rwsplit_C1 v0 v1 v2 ([] : List UInt8) v3)) else none) else (bif (decide ((32 : Int) < ((v1 : Nat) : Int))) then some [⟨.l_str, ([] : List (List UInt8))⟩, ⟨.api_Errno, (9 : Int)⟩] else some [⟨.l_str, v3⟩, ⟨.api_Errno, (0 : Int)⟩])
theorem rwsplit_l0 (G : Nat → ASt E → Option (List (TV E))) (v0 : List UInt8) (v1 : Nat) (v2 : Int) (v3 : List (List UInt8)) : runL rwsplit_O rwsplit_H G Tryz.f89 0 (rwsplit_C0 v0 v1 v2 v3) = rwsplit_t0 G v0 v1 v2 v3 := by kernel_rfl
noncomputable def rwsplit_t1 (G : Nat → ASt E → Option (List (TV E))) (v0 : List UInt8) (v1 : Nat) (v2 : Int) (v3 : List UInt8) (v4 : List (List UInt8)) : Option (List (TV E)) :=
  bif ((decide ((0 : Int) ≤ v2) && decide (v2 < (v0.length : Int))) || !(decide (v2 < (v0.length : Int)))) then (bif (bif (decide (v2 < (v0.length : Int))) then (!(blankB (((List.getD v0 (Int.toNat v2) 0).toNat : Nat) : Int))) else false) then (bif (okPc v0 v2) then (bif (decide ((pcN v0 v2) < (0 : Int))) then some [⟨.l_str, ([] : List (List UInt8))⟩, ⟨.api_Errno, (3 : Int)⟩] else (bif (decide (v3.length + (pcR v0 v2).length ≤ maxStr)) then G 1 (rwsplit_C1 v0 v1 (pcN v0 v2) (v3 ++ (pcR v0 v2)) v4) else none)) else none) else (bif (decide ((v4.length + ([v3] : List (List UInt8)).length) * 16 ≤ maxBytes)) then G 0 (rwsplit_C0 v0 (v4.length + ([v3] : List (List UInt8)).length) v2 (v4 ++ ([v3] : List (List UInt8)))) else none)) else none
theorem rwsplit_l1 (G : Nat → ASt E → Option (List (TV E))) (v0 : List UInt8) (v1 : Nat) (v2 : Int) (v3 : List UInt8) (v4 : List (List UInt8)) : runL rwsplit_O rwsplit_H G Tryz.f89 1 (rwsplit_C1 v0 v1 v2 v3 v4) = rwsplit_t1 G v0 v1 v2 v3 v4 := by kernel_rfl
theorem rwsplit_f : Tryz.prog.funcs[89]? = some Tryz.f89 := by kernel_rfl
theorem rwsplit_n : (Tryz.f89.name == "runtime.NumGoroutine") = false := by kernel_rfl
theorem rwsplit_b : Tryz.f89.body.isNone = false := by kernel_rfl
theorem rwsplit_ex : ∃ fn, Tryz.prog.funcs[89]? = some fn ∧ (fn.name == "runtime.NumGoroutine") = false ∧ fn.body.isNone = false := ⟨Tryz.f89, rwsplit_f, rwsplit_n, rwsplit_b⟩
theorem rwsplit_hO : OracleOk E rwsplit_O := orac_ok (.cons rblank_ok (.cons rpiece_ok .nil)) .nil .nil .nil
theorem rwsplit_s0 {res : List (TV E)} {v0 : List UInt8} {v1 : Nat} {v2 : Int} {v3 : List (List UInt8)} (h : rwsplit_t0 (Gr E Tryz.f89 res) v0 v1 v2 v3 = some res) : Ev E Tryz.f89 res 0 (rwsplit_C0 v0 v1 v2 v3) := Ev.step rwsplit_hO mix ((rwsplit_l0 _ v0 v1 v2 v3).trans h)
theorem rwsplit_s1 {res : List (TV E)} {v0 : List UInt8} {v1 : Nat} {v2 : Int} {v3 : List UInt8} {v4 : List (List UInt8)} (h : rwsplit_t1 (Gr E Tryz.f89 res) v0 v1 v2 v3 v4 = some res) : Ev E Tryz.f89 res 1 (rwsplit_C1 v0 v1 v2 v3 v4) := Ev.step rwsplit_hO mix ((rwsplit_l1 _ v0 v1 v2 v3 v4).trans h)
theorem rwsplit_ok_of (h : ∀ (x0 : List UInt8), okL1 x0 = true → rwsplit_t (Gr E Tryz.f89 [⟨.l_str, splV x0⟩, ⟨.api_Errno, splE x0⟩]) x0 = some [⟨.l_str, splV x0⟩, ⟨.api_Errno, splE x0⟩]) : FnOk E rwsplit_id rwsplit_W := fn12_ok rwsplit_hO mix rwsplit_f rwsplit_n rwsplit_b (fun x0 hk => (rwsplit_e _ x0).trans (h x0 hk))
abbrev wsR (o : Option (List (List UInt8))) : List (TV E) := [⟨.l_str, finV o⟩, ⟨.api_Errno, finE o⟩]
theorem rwsplit_0 (s : List UInt8) (hs : s.length ≤ 1000000) : ∀ (n i : Nat), s.length - i < n → i ≤ s.length →
    (∀ (out : List (List UInt8)), out.length ≤ 2 * i + 1 → Ev E Tryz.f89 (wsR (bareA n (s.drop i) [] false out)) 0 (rwsplit_C0 s out.length i out)) ∧
    (∀ (out : List (List UInt8)) (w : List UInt8) (v : Nat) (b : Bool), out.length ≤ 2 * i → w.length ≤ i → (b = true ∨ i < s.length ∧ blankB (((List.getD s i 0).toNat : Nat) : Int) = false) → Ev E Tryz.f89 (wsR (bareA n (s.drop i) w b out)) 1 (rwsplit_C1 s v i w out)) := by
  intro n
  induction n with
  | zero => intro i h1 h2; omega
  | succ n ih =>
    intro i h1 h2
    by_cases hi : i < s.length
    · have e1 : w64 ((i : Int) + 1) = ((i + 1 : Nat) : Int) := by rw [w64_id (by omega) (by omega)]; omega
      have hd := dlt hi
      cases hb : blankB (((List.getD s i 0).toNat : Nat) : Int) with
      | true =>
        have k : ∀ (out : List (List UInt8)), out.length ≤ 2 * i + 1 → Ev E Tryz.f89 (wsR (bareA n (s.drop (i + 1)) [] false out)) 0 (rwsplit_C0 s out.length i out) := by
          intro out ho
          refine rwsplit_s0 ?_
          simp only [rwsplit_t0, hd, d0, Bool.and_self, cond_true, Int.toNat_natCast, hb, e1]
          exact Gr_of ((ih (i + 1) (by omega) (by omega)).1 out (by omega))
        refine ⟨fun out ho => by rw [bareA_blank hi hb]; exact k out ho, fun out w v b ho hw hbb => ?_⟩
        rcases hbb with rfl | ⟨_, hbb⟩
        · rw [bareA_blank hi hb]
          refine rwsplit_s1 ?_
          simp only [rwsplit_t1, d0, Bool.true_and, Int.toNat_natCast, hd, hb, cond_true, cond_false, Bool.not_true, Bool.true_or]
          rw [dT (show (out.length + [w].length) * 16 ≤ maxBytes by rw [mb, List.length_singleton]; omega)]
          have := k (out ++ [w]) (by rw [List.length_append, List.length_singleton]; omega)
          rw [List.length_append] at this
          exact Gr_of this
        · cases hbb
      | false =>
        have c : ∀ (out : List (List UInt8)) (w : List UInt8) (v : Nat) (b : Bool), out.length ≤ 2 * i + 1 → w.length ≤ i → Ev E Tryz.f89 (wsR (bareA (n + 1) (s.drop i) w b out)) 1 (rwsplit_C1 s v i w out) := by
          intro out w v b ho hw
          have hok : okPc s (i : Int) = true := okPc_iff.2 ⟨⟨hs, by omega⟩, by omega⟩
          rw [bareA_piece hi hb]
          refine rwsplit_s1 ?_
          simp only [rwsplit_t1, hd, d0, Bool.and_self, Bool.true_or, cond_true, Int.toNat_natCast, hb, Bool.not_false, hok]
          unfold pcR pcN
          rw [Int.toNat_natCast]
          cases hq : pcV (s.drop i) with
          | none => rfl
          | some q =>
            obtain ⟨q1, q2, q3⟩ := pcV_le hq
            rw [List.length_drop] at q1
            simp only
            rw [dF (show ¬ (i : Int) + (q.2 : Int) < 0 by omega), msT (show w.length + q.1.length ≤ 4611686018427387904 by omega), show (i : Int) + (q.2 : Int) = ((i + q.2 : Nat) : Int) by omega]
            exact Gr_of ((ih (i + q.2) (by omega) (by omega)).2 out _ v true (by omega) (by rw [List.length_append]; omega) (.inl rfl))
        refine ⟨fun out ho => ?_, fun out w v b ho hw _ => c out w v b (by omega) hw⟩
        refine rwsplit_s0 ?_
        simp only [rwsplit_t0, hd, d0, Bool.and_self, cond_true, Int.toNat_natCast, hb, cond_false]
        exact Gr_of (c out [] out.length false ho (Nat.zero_le _))
    · have hd := dge (show s.length ≤ i by omega)
      have k : ∀ (out : List (List UInt8)), out.length ≤ 2 * i + 1 → Ev E Tryz.f89 (wsR (some out)) 0 (rwsplit_C0 s out.length i out) := by
        intro out ho
        refine rwsplit_s0 ?_
        simp only [rwsplit_t0, hd, cond_false, wsR, finV, finE]
        cases decide ((32 : Int) < (out.length : Int)) <;> rfl
      refine ⟨fun out ho => by rw [bareA_end (by omega)]; exact k out ho, fun out w v b ho hw hbb => ?_⟩
      rcases hbb with rfl | ⟨hbb, _⟩
      · rw [bareA_end (by omega)]
        refine rwsplit_s1 ?_
        simp only [rwsplit_t1, hd, cond_true, cond_false, Bool.not_false, Bool.or_true]
        rw [dT (show (out.length + [w].length) * 16 ≤ maxBytes by rw [mb, List.length_singleton]; omega)]
        have := k (out ++ [w]) (by rw [List.length_append, List.length_singleton]; omega)
        rw [List.length_append] at this
        exact Gr_of this
      · omega
theorem rwsplit_ok : FnOk E rwsplit_id rwsplit_W := rwsplit_ok_of fun s hk =>
  Gr_of ((rwsplit_0 s (okL1_iff.1 hk) _ 0 (Nat.lt_succ_self _) (Nat.zero_le _)).1 [] (Nat.zero_le _))
end Go.Proofs.YtfoflgciceckoaaGreatDoor.Rf