/- The reference's thousandths, spans and amounts (01, 03, 04): there is a result, by the Mirror. -/
import Derived.Test.YtfoflgciceckoaaGreatDoorR4
namespace Go.Proofs.YtfoflgciceckoaaGreatDoor.Rf
open Go Go.RowKit Go.Sort Go.Proofs.YtfoflgciceckoaaGreatDoor.Mir
/-! ### Results of which nothing more is asked than that there is one -/
theorem anyS {α : Type} {P Q R : α → Prop} (f : ∀ p, Q p → R p) : (∃ p, P p ∧ Q p) → ∃ p, P p ∧ R p := fun ⟨p, h1, h2⟩ => ⟨p, h1, f p h2⟩
theorem cutN {α : Type} (s : List α) (i : Nat) : List.take (s.length - i) (List.drop i s) = s.drop i := List.take_of_length_le (by rw [List.length_drop]; omega)
theorem cutT {α : Type} (s : List α) (i : Nat) : List.take (i - Int.toNat (0 : Int)) (List.drop (Int.toNat (0 : Int)) s) = s.take i := by
  rw [Int.toNat_zero, Nat.sub_zero, List.drop_zero]
theorem dle {i n : Nat} (h : i ≤ n) : decide ((i : Int) ≤ (n : Int)) = true := dT (by omega)
theorem dlr (n : Nat) : decide ((n : Int) ≤ (n : Int)) = true := dT (Int.le_refl _)
theorem d00 : decide ((0 : Int) ≤ 0) = true := rfl
theorem isD_b (c : UInt8) : (bif decide ((48 : Int) ≤ (c.toNat : Int)) then decide ((c.toNat : Int) ≤ 57) else false) = isD c := by
  unfold isD
  by_cases h1 : 48 ≤ c.toNat
  · rw [dT (show (48 : Int) ≤ (c.toNat : Int) by omega), dT h1, cond_true, Bool.true_and]; exact decide_eq_decide.2 (by omega)
  · rw [dF (show ¬ (48 : Int) ≤ (c.toNat : Int) by omega), dF h1]; rfl
noncomputable def rmilli_O : Oracle E := orac [(134, rvalue_W), (133, rwhole_W)] [] [] []
noncomputable def rmilli_H : Hint E := Hint.mk [(0, [0, 4]), (1, [0, 4, 5, 6]), (2, [0, 4, 5])] [] [] [] []
noncomputable def rmilli_C0 (v0 : List UInt8) (v1 : Int) : ASt E := ASt.mk 89 [(0, .d (.str v0)), (4, .d (.int .i64 v1))] [] 0
noncomputable def rmilli_C1 (v0 : List UInt8) (v1 : Int) (v2 : List UInt8) (v3 : Int) : ASt E := ASt.mk 89 [(0, .d (.str v0)), (4, .d (.int .i64 v1)), (5, .d (.str v2)), (6, .d (.int .i64 v3))] [] 0
noncomputable def rmilli_C2 (v0 : List UInt8) (v1 : Int) (v2 : List UInt8) : ASt E := ASt.mk 89 [(0, .d (.str v0)), (4, .d (.int .i64 v1)), (5, .d (.str v2))] [] 0
noncomputable def rmilli_t (G : Nat → ASt E → Option (List (TV E))) (x0 : List UInt8) : Option (List (TV E)) :=
  G 0 (rmilli_C0 x0 (0 : Int))
theorem rmilli_e (G : Nat → ASt E → Option (List (TV E))) (x0 : List UInt8) : runE rmilli_O rmilli_H G Tryz.f83 [⟨.str, x0⟩] = rmilli_t G x0 := by kernel_rfl
noncomputable def rmilli_t0 (G : Nat → ASt E → Option (List (TV E))) (v0 : List UInt8) (v1 : Int) : Option (List (TV E)) :=
  bif ((decide ((0 : Int) ≤ v1) && decide (v1 < (v0.length : Int))) || !(decide (v1 < (v0.length : Int)))) then (bif (bif (decide (v1 < (v0.length : Int))) then ((((List.getD v0 (Int.toNat v1) 0).toNat : Nat) : Int) != (46 : Int)) else false) then G 0 (rmilli_C0 v0 (w64 (v1 + (1 : Int)))) else (bif (decide (v1 < (v0.length : Int))) then (bif (decide ((0 : Int) ≤ (w64 (v1 + (1 : Int)))) && decide ((w64 (v1 + (1 : Int))) ≤ (v0.length : Int)) && decide ((v0.length : Int) ≤ (v0.length : Int))) then (bif ((decide ((0 : Int) ≤ (w64 (((List.take (Int.toNat (v0.length : Int) - Int.toNat (w64 (v1 + (1 : Int)))) (List.drop (Int.toNat (w64 (v1 + (1 : Int)))) v0)).length : Int) - (1 : Int)))) && decide ((w64 (((List.take (Int.toNat (v0.length : Int) - Int.toNat (w64 (v1 + (1 : Int)))) (List.drop (Int.toNat (w64 (v1 + (1 : Int)))) v0)).length : Int) - (1 : Int))) < ((List.take (Int.toNat (v0.length : Int) - Int.toNat (w64 (v1 + (1 : Int)))) (List.drop (Int.toNat (w64 (v1 + (1 : Int)))) v0)).length : Int))) || !(!(bif (decide (((List.take (Int.toNat (v0.length : Int) - Int.toNat (w64 (v1 + (1 : Int)))) (List.drop (Int.toNat (w64 (v1 + (1 : Int)))) v0)).length : Int) < (1 : Int))) then true else (decide ((3 : Int) < ((List.take (Int.toNat (v0.length : Int) - Int.toNat (w64 (v1 + (1 : Int)))) (List.drop (Int.toNat (w64 (v1 + (1 : Int)))) v0)).length : Int)))))) then (bif (bif (bif (decide (((List.take (Int.toNat (v0.length : Int) - Int.toNat (w64 (v1 + (1 : Int)))) (List.drop (Int.toNat (w64 (v1 + (1 : Int)))) v0)).length : Int) < (1 : Int))) then true else (decide ((3 : Int) < ((List.take (Int.toNat (v0.length : Int) - Int.toNat (w64 (v1 + (1 : Int)))) (List.drop (Int.toNat (w64 (v1 + (1 : Int)))) v0)).length : Int)))) then true else ((((List.getD (List.take (Int.toNat (v0.length : Int) - Int.toNat (w64 (v1 + (1 : Int)))) (List.drop (Int.toNat (w64 (v1 + (1 : Int)))) v0)) (Int.toNat (w64 (((List.take (Int.toNat (v0.length : Int) - Int.toNat (w64 (v1 + (1 : Int)))) (List.drop (Int.toNat (w64 (v1 + (1 : Int)))) v0)).length : Int) - (1 : Int)))) 0).toNat : Nat) : Int) == (48 : Int))) then some [⟨.int, (0 : Int)⟩, ⟨.api_Errno, (3 : Int)⟩] else (bif (decide ((0 : Int) ≤ (0 : Int)) && decide ((0 : Int) ≤ v1) && decide (v1 ≤ (v0.length : Int))) then (bif (okL1 (List.take (Int.toNat v1 - Int.toNat (0 : Int)) (List.drop (Int.toNat (0 : Int)) v0))) then (bif (!(wholeB (List.take (Int.toNat v1 - Int.toNat (0 : Int)) (List.drop (Int.toNat (0 : Int)) v0)))) then some [⟨.int, (0 : Int)⟩, ⟨.api_Errno, (3 : Int)⟩] else G 1 (rmilli_C1 v0 v1 (List.take (Int.toNat (v0.length : Int) - Int.toNat (w64 (v1 + (1 : Int)))) (List.drop (Int.toNat (w64 (v1 + (1 : Int)))) v0)) (0 : Int))) else none) else none)) else none) else none) else (bif (decide ((0 : Int) ≤ (0 : Int)) && decide ((0 : Int) ≤ v1) && decide (v1 ≤ (v0.length : Int))) then (bif (okL1 (List.take (Int.toNat v1 - Int.toNat (0 : Int)) (List.drop (Int.toNat (0 : Int)) v0))) then (bif (!(wholeB (List.take (Int.toNat v1 - Int.toNat (0 : Int)) (List.drop (Int.toNat (0 : Int)) v0)))) then some [⟨.int, (0 : Int)⟩, ⟨.api_Errno, (3 : Int)⟩] else G 1 (rmilli_C1 v0 v1 ([] : List UInt8) (0 : Int))) else none) else none))) else none
theorem rmilli_l0 (G : Nat → ASt E → Option (List (TV E))) (v0 : List UInt8) (v1 : Int) : runL rmilli_O rmilli_H G Tryz.f83 0 (rmilli_C0 v0 v1) = rmilli_t0 G v0 v1 := by kernel_rfl
noncomputable def rmilli_t1 (G : Nat → ASt E → Option (List (TV E))) (v0 : List UInt8) (v1 : Int) (v2 : List UInt8) (v3 : Int) : Option (List (TV E)) :=
  bif (decide (v3 < (v2.length : Int))) then (bif (decide ((0 : Int) ≤ v3) && decide (v3 < (v2.length : Int))) then (bif ((decide ((0 : Int) ≤ v3) && decide (v3 < (v2.length : Int))) || !(!(decide ((((List.getD v2 (Int.toNat v3) 0).toNat : Nat) : Int) < (48 : Int))))) then (bif (bif (decide ((((List.getD v2 (Int.toNat v3) 0).toNat : Nat) : Int) < (48 : Int))) then true else (decide ((57 : Int) < (((List.getD v2 (Int.toNat v3) 0).toNat : Nat) : Int)))) then some [⟨.int, (0 : Int)⟩, ⟨.api_Errno, (3 : Int)⟩] else G 1 (rmilli_C1 v0 v1 v2 (w64 (v3 + (1 : Int))))) else none) else none) else G 2 (rmilli_C2 v0 v1 v2)
theorem rmilli_l1 (G : Nat → ASt E → Option (List (TV E))) (v0 : List UInt8) (v1 : Int) (v2 : List UInt8) (v3 : Int) : runL rmilli_O rmilli_H G Tryz.f83 1 (rmilli_C1 v0 v1 v2 v3) = rmilli_t1 G v0 v1 v2 v3 := by kernel_rfl
noncomputable def rmilli_t2 (G : Nat → ASt E → Option (List (TV E))) (v0 : List UInt8) (v1 : Int) (v2 : List UInt8) : Option (List (TV E)) :=
  bif (decide ((v2.length : Int) < (3 : Int))) then (bif (decide (v2.length + ([48] : List UInt8).length ≤ maxStr)) then G 2 (rmilli_C2 v0 v1 (v2 ++ ([48] : List UInt8))) else none) else (bif (decide ((0 : Int) ≤ (0 : Int)) && decide ((0 : Int) ≤ v1) && decide (v1 ≤ (v0.length : Int))) then (bif (okD (List.take (Int.toNat v1 - Int.toNat (0 : Int)) (List.drop (Int.toNat (0 : Int)) v0))) then (bif ((okD v2) || !(!(decide ((9007199254740 : Int) < (rvalueV (List.take (Int.toNat v1 - Int.toNat (0 : Int)) (List.drop (Int.toNat (0 : Int)) v0))))))) then (bif (bif (decide ((9007199254740 : Int) < (rvalueV (List.take (Int.toNat v1 - Int.toNat (0 : Int)) (List.drop (Int.toNat (0 : Int)) v0))))) then true else (decide ((9007199254740992 : Int) < (w64 ((w64 ((rvalueV (List.take (Int.toNat v1 - Int.toNat (0 : Int)) (List.drop (Int.toNat (0 : Int)) v0))) * (1000 : Int))) + (rvalueV v2)))))) then some [⟨.int, (0 : Int)⟩, ⟨.api_Errno, (9 : Int)⟩] else (bif (okD v2) then some [⟨.int, (w64 ((w64 ((rvalueV (List.take (Int.toNat v1 - Int.toNat (0 : Int)) (List.drop (Int.toNat (0 : Int)) v0))) * (1000 : Int))) + (rvalueV v2)))⟩, ⟨.api_Errno, (0 : Int)⟩] else none)) else none) else none) else none)
theorem rmilli_l2 (G : Nat → ASt E → Option (List (TV E))) (v0 : List UInt8) (v1 : Int) (v2 : List UInt8) : runL rmilli_O rmilli_H G Tryz.f83 2 (rmilli_C2 v0 v1 v2) = rmilli_t2 G v0 v1 v2 := by kernel_rfl
theorem rmilli_f : Tryz.prog.funcs[83]? = some Tryz.f83 := by kernel_rfl
theorem rmilli_n : (Tryz.f83.name == "runtime.NumGoroutine") = false := by kernel_rfl
theorem rmilli_b : Tryz.f83.body.isNone = false := by kernel_rfl
theorem rmilli_ex : ∃ fn, Tryz.prog.funcs[83]? = some fn ∧ (fn.name == "runtime.NumGoroutine") = false ∧ fn.body.isNone = false := ⟨Tryz.f83, rmilli_f, rmilli_n, rmilli_b⟩
theorem rmilli_hO : OracleOk E rmilli_O := orac_ok (.cons rvalue_ok (.cons rwhole_ok .nil)) .nil .nil .nil
theorem rmilli_s0 {res : List (TV E)} {v0 : List UInt8} {v1 : Int} (h : rmilli_t0 (Gr E Tryz.f83 res) v0 v1 = some res) : Ev E Tryz.f83 res 0 (rmilli_C0 v0 v1) := Ev.step rmilli_hO mix ((rmilli_l0 _ v0 v1).trans h)
theorem rmilli_s1 {res : List (TV E)} {v0 : List UInt8} {v1 : Int} {v2 : List UInt8} {v3 : Int} (h : rmilli_t1 (Gr E Tryz.f83 res) v0 v1 v2 v3 = some res) : Ev E Tryz.f83 res 1 (rmilli_C1 v0 v1 v2 v3) := Ev.step rmilli_hO mix ((rmilli_l1 _ v0 v1 v2 v3).trans h)
theorem rmilli_s2 {res : List (TV E)} {v0 : List UInt8} {v1 : Int} {v2 : List UInt8} (h : rmilli_t2 (Gr E Tryz.f83 res) v0 v1 v2 = some res) : Ev E Tryz.f83 res 2 (rmilli_C2 v0 v1 v2) := Ev.step rmilli_hO mix ((rmilli_l2 _ v0 v1 v2).trans h)
def rmilli_any (x0 : List UInt8) (p : Int × Int) : Prop := rmilli_t (Gr E Tryz.f83 [⟨.int, p.1⟩, ⟨.api_Errno, p.2⟩]) x0 = some [⟨.int, p.1⟩, ⟨.api_Errno, p.2⟩]
noncomputable def rmilli_p (x0 : List UInt8) : Int × Int := @Classical.epsilon _ ⟨(dflt .int, dflt .api_Errno)⟩ (rmilli_any x0)
noncomputable def rmilli_r0 (x0 : List UInt8) : Int := (rmilli_p x0).1
noncomputable def rmilli_r1 (x0 : List UInt8) : Int := (rmilli_p x0).2
theorem rmilli_spec (x0 : List UInt8) (h : ∃ p, rmilli_any x0 p) : rmilli_any x0 (rmilli_p x0) := Classical.epsilon_spec h
noncomputable def rmilli_W : FnW E := fn12 (E := E) .str .int .api_Errno okL1 rmilli_r0 rmilli_r1
def rmilli_id : FuncId := 83
theorem rmilli_ok_of (h : ∀ (x0 : List UInt8), okL1 x0 = true → rmilli_t (Gr E Tryz.f83 [⟨.int, rmilli_r0 x0⟩, ⟨.api_Errno, rmilli_r1 x0⟩]) x0 = some [⟨.int, rmilli_r0 x0⟩, ⟨.api_Errno, rmilli_r1 x0⟩]) : FnOk E rmilli_id rmilli_W := fn12_ok rmilli_hO mix rmilli_f rmilli_n rmilli_b (fun x0 hk => (rmilli_e _ x0).trans (h x0 hk))
theorem rmilli_2 (s : List UInt8) (hs : s.length ≤ 1000000) (i : Nat) (hi : i ≤ s.length) (hw : wholeB (s.take i) = true) : ∀ (m : Nat) (t : List UInt8), 3 - t.length = m → t.length ≤ 3 → t.all isD = true →
    ∃ p : Int × Int, True ∧ Ev E Tryz.f83 [⟨.int, p.1⟩, ⟨.api_Errno, p.2⟩] 2 (rmilli_C2 s i t) := by
  have hd : (s.take i).all isD = true := by simp only [wholeB, Bool.and_eq_true] at hw; exact hw.2
  have o1 : okD (s.take i) = true := okD_iff.2 ⟨by simp; omega, hd⟩
  intro m
  induction m with
  | zero =>
    intro t h1 h2 h3
    have o2 : okD t = true := okD_iff.2 ⟨by omega, h3⟩
    refine anyS (fun _ h => rmilli_s2 h) ?_
    simp only [rmilli_t2, dF (show ¬ (t.length : Int) < 3 by omega), cond_false, cutT, dle hi, d00, d0, Bool.and_self, Int.toNat_natCast, o1, o2, Bool.true_or, cond_true]
    cases (bif decide ((9007199254740 : Int) < rvalueV (s.take i)) then true else decide ((9007199254740992 : Int) < w64 (w64 (rvalueV (s.take i) * 1000) + rvalueV t))) <;> exact ⟨(_, _), trivial, rfl⟩
  | succ m ih =>
    intro t h1 h2 h3
    refine anyS (fun _ h => rmilli_s2 h) ?_
    simp only [rmilli_t2, dT (show (t.length : Int) < 3 by omega), cond_true, dT (show t.length + [(48 : UInt8)].length ≤ maxStr by rw [ms, List.length_singleton]; omega)]
    exact anyS (fun _ h => Gr_of h) (ih (t ++ [48]) (by simp; omega) (by simp; omega) (by rw [List.all_append, h3]; rfl))
theorem rmilli_1 (s : List UInt8) (hs : s.length ≤ 1000000) (a : Nat) (ha : a ≤ s.length) (hw : wholeB (s.take a) = true) (t : List UInt8) (ht : t.length ≤ 3) : ∀ (m i : Nat), t.length - i = m → i ≤ t.length → (t.take i).all isD = true → 
    ∃ p : Int × Int, (True) ∧ Ev E Tryz.f83 [⟨.int, p.1⟩, ⟨.api_Errno, p.2⟩] 1 (rmilli_C1 s a t i) := by
  intro m
  induction m with
  | zero =>
    intro i  h1 h2 h3
    refine anyS (fun _ h => rmilli_s1 h) ?_
    simp only [rmilli_t1, dge (show t.length ≤ i by omega), cond_false, List.drop_eq_nil_of_le (show t.length ≤ i by omega)]
    exact anyS (fun _ h => Gr_of h) (rmilli_2 s hs a ha hw _ t rfl ht (by rw [List.take_of_length_le (by omega)] at h3; exact h3))
  | succ m ih2 =>
    intro i  h1 h2 h3
    have hi : i < t.length := by omega
    have e3 : w64 ((i : Int) + 1) = ((i + 1 : Nat) : Int) := by rw [w64_id (by omega) (by omega)]; omega
    refine anyS (fun _ h => rmilli_s1 h) ?_
    simp only [rmilli_t1, dlt hi, d0, gd t _ i hi, e3, Bool.and_self, Bool.true_or, cond_true, bad1_eq]
    cases hd : isD t[i] with
    | false => exact ⟨(_, _), trivial, rfl⟩
    | true => exact anyS (fun _ h => Gr_of h) (ih2 (i + 1) (by omega) (by omega) (by rw [List.take_succ_eq_append_getElem hi, List.all_append, h3, List.all_cons, hd]; rfl))
theorem rmilli_0 (s : List UInt8) (hs : s.length ≤ 1000000) : ∀ (m i : Nat), s.length - i = m → i ≤ s.length →
    ∃ p : Int × Int, True ∧ Ev E Tryz.f83 [⟨.int, p.1⟩, ⟨.api_Errno, p.2⟩] 0 (rmilli_C0 s i) := by
  intro m
  induction m with
  | zero =>
    intro i h1 h2
    have o1 : okL1 (s.take i) = true := okL1_iff.2 (by simp; omega)
    refine anyS (fun _ h => rmilli_s0 h) ?_
    simp only [rmilli_t0, dge (show s.length ≤ i by omega), Bool.not_false, Bool.or_true, cond_true, cond_false, cutT, dle h2, d00, d0, Bool.and_self, Int.toNat_natCast, o1]
    cases hw : wholeB (s.take i) with
    | false => exact ⟨(_, _), trivial, rfl⟩
    | true => exact anyS (fun _ h => Gr_of h) (rmilli_1 s hs i h2 hw [] (by simp) 0 0 rfl (Nat.zero_le _) rfl)
  | succ m ih =>
    intro i h1 h2
    have hi : i < s.length := by omega
    have e3 : w64 ((i : Int) + 1) = ((i + 1 : Nat) : Int) := by rw [w64_id (by omega) (by omega)]; omega
    have o1 : okL1 (s.take i) = true := okL1_iff.2 (by simp; omega)
    have ht : (s.drop (i + 1)).length = m := by simp; omega
    refine anyS (fun _ h => rmilli_s0 h) ?_
    simp only [rmilli_t0, dlt hi, d0, gd s _ i hi, Bool.and_self, Bool.true_or, cond_true, e3, cutN, cutT, dle (show i + 1 ≤ s.length by omega), dle h2, dlr, d00, Int.toNat_natCast, o1, ht]
    cases (((List.getD s i 0).toNat : Int) != 46) with
    | true => exact anyS (fun _ h => Gr_of h) (ih (i + 1) (by omega) (by omega))
    | false =>
      simp only [cond_false]
      by_cases hm : m = 0
      · subst hm
        simp only [show decide (((0 : Nat) : Int) < 1) = true from rfl, cond_true, Bool.not_true, Bool.not_false, Bool.or_true]
        exact ⟨(_, _), trivial, rfl⟩
      · by_cases h4 : 3 < m
        · simp only [dF (show ¬ (m : Int) < 1 by omega), dT (show (3 : Int) < (m : Int) by omega), cond_false, cond_true, Bool.not_true, Bool.not_false, Bool.or_true]
          exact ⟨(_, _), trivial, rfl⟩
        · have e5 : w64 ((m : Int) - 1) = ((m - 1 : Nat) : Int) := by rw [w64_id (by omega) (by omega)]; omega
          simp only [dF (show ¬ (m : Int) < 1 by omega), dF (show ¬ (3 : Int) < (m : Int) by omega), cond_false, Bool.not_false, Bool.not_true, Bool.or_false, e5, d0, dlt (show m - 1 < m by omega), Bool.and_self, Bool.true_or, cond_true, Int.toNat_natCast]
          cases (((List.getD (s.drop (i + 1)) (m - 1) 0).toNat : Int) == 48) with
          | true => exact ⟨(_, _), trivial, rfl⟩
          | false =>
            simp only [cond_false]
            cases hw : wholeB (s.take i) with
            | false => exact ⟨(_, _), trivial, rfl⟩
            | true => exact anyS (fun _ h => Gr_of h) (rmilli_1 s hs i h2 hw _ (by omega) _ 0 rfl (Nat.zero_le _) rfl)
theorem rmilli_ok : FnOk E rmilli_id rmilli_W := rmilli_ok_of fun s hk => by
  obtain ⟨p, _, hp⟩ := rmilli_0 s (okL1_iff.1 hk) _ 0 rfl (Nat.zero_le _)
  exact rmilli_spec s ⟨p, Gr_of hp⟩
end Go.Proofs.YtfoflgciceckoaaGreatDoor.Rf