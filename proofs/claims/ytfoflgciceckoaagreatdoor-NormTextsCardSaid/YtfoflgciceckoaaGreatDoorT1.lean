/- The program's Count is the reference's. -/
import Derived.Test.YtfoflgciceckoaaGreatDoorN11
namespace Go.Proofs.YtfoflgciceckoaaGreatDoor.Rf
open Go Go.RowKit Go.Sort Go.Proofs.YtfoflgciceckoaaGreatDoor.Mir
/-! ### Plain: the program's Count is the reference's -/
theorem pdgt_d {c : UInt8} (h : isD c = true) : pdgt c = ((c.toNat - 48 : Nat) : Int) ∧ c.toNat - 48 ≤ 9 := by
  have := isD_iff.1 h
  unfold pdgt
  omega
theorem pdgt_bad (c : UInt8) : (bif decide (pdgt c < 0) then true else decide (9 < pdgt c)) = !(isD c) := by
  rw [← bad1_eq]
  have e1 : decide (pdgt c < 0) = decide ((c.toNat : Int) < 48) := decide_eq_decide.2 (by unfold pdgt; omega)
  have e2 : decide (9 < pdgt c) = decide (57 < (c.toNat : Int)) := decide_eq_decide.2 (by unfold pdgt; omega)
  rw [e1, e2]
theorem pwh_no (most : Int) : ∀ (s : List UInt8) (n : Int) (over : Bool), s.all isD = false → pwh most s n over = (0, 3)
  | [], _, _, h => by cases h
  | c :: t, n, over, h => by
    unfold pwh
    rw [pdgt_bad]
    cases hc : isD c with
    | false => rfl
    | true =>
      rw [List.all_cons, hc, Bool.true_and] at h
      simp only [Bool.not_true, cond_false]
      cases povr most (pdgt c) n over with
      | true => exact pwh_no most t _ _ h
      | false => exact pwh_no most t _ _ h
theorem pwh_over (most : Int) : ∀ (s : List UInt8) (n : Int), s.all isD = true → pwh most s n true = (0, 9)
  | [], _, _ => rfl
  | c :: t, n, h => by
    rw [List.all_cons, Bool.and_eq_true] at h
    unfold pwh
    rw [pdgt_bad, h.1]
    exact pwh_over most t n h.2
theorem pwh_eq (most : Int) (h0 : 0 ≤ most) : ∀ (s : List UInt8) (n : Nat), s.all isD = true → (n : Int) ≤ most → pwh most s n false = overP most (valN s n)
  | [], n, _, hn => by rw [valN, overP_ge (by omega)]; rfl
  | c :: t, n, h, hn => by
    rw [List.all_cons, Bool.and_eq_true] at h
    obtain ⟨e, hd⟩ := pdgt_d h.1
    unfold pwh valN
    rw [pdgt_bad, h.1]
    simp only [Bool.not_true, cond_false]
    rw [e]
    generalize hq : c.toNat - 48 = d at hd ⊢
    by_cases hm : ((n * 10 + d : Nat) : Int) ≤ most
    · have ho : povr most (d : Int) n false = false := by
        unfold povr
        rw [cond_false, Int.tdiv_eq_ediv_of_nonneg (by omega), dF (by omega), dF (by omega)]
        rfl
      rw [ho, Bool.not_false, cond_true, show (n : Int) * 10 + (d : Int) = ((n * 10 + d : Nat) : Int) by omega]
      exact pwh_eq most h0 t _ h.2 hm
    · have ho : povr most (d : Int) n false = true := by
        unfold povr
        rw [cond_false]
        by_cases hmd : most < (d : Int)
        · rw [dT hmd]; cases decide ((most - (d : Int)).tdiv 10 < (n : Int)) <;> rfl
        · rw [Int.tdiv_eq_ediv_of_nonneg (by omega), dT (by omega)]; rfl
      rw [ho, Bool.not_true, cond_false, pwh_over most t _ h.2]
      have := valN_ge t (n * 10 + d)
      rw [overP_lt (by omega)]
theorem pbadW_eq (s : List UInt8) : pbadW s = lead0 s := by
  unfold pbadW
  match s with
  | [] => rfl
  | [c] => rfl
  | c :: d :: t =>
    have e1 : (c :: d :: t == ([] : List UInt8)) = false := rfl
    rw [e1, cond_false, dT (show (1 : Int) < ((c :: d :: t).length : Int) by simp only [List.length_cons]; omega), cond_true]
    exact c48 c
theorem count_eq (s : List UInt8) {most : Int} (h0 : 0 ≤ most) : pwholeP s most = cntP s most := by
  unfold pwholeP cntP wholeB
  rw [pbadW_eq]
  cases lead0 s with
  | true => rfl
  | false =>
    simp only [cond_false, Bool.not_false, Bool.true_and]
    cases hd : s.all isD with
    | false => rw [pwh_no most s _ _ hd]; rfl
    | true => rw [show (0 : Int) = ((0 : Nat) : Int) from rfl, pwh_eq most h0 s 0 hd (by omega)]; rfl
theorem countV_eq (s : List UInt8) {most : Int} (h0 : 0 ≤ most) : pwholeV s most = cntV s most := congrArg Prod.fst (count_eq s h0)
theorem countE_eq (s : List UInt8) {most : Int} (h0 : 0 ≤ most) : pwholeE s most = cntE s most := congrArg Prod.snd (count_eq s h0)
end Go.Proofs.YtfoflgciceckoaaGreatDoor.Rf