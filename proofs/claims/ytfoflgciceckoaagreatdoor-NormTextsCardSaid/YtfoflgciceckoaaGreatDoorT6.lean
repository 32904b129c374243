/- Thousandths: the program's and the reference's. -/
import Derived.Test.YtfoflgciceckoaaGreatDoorT5
namespace Go.Proofs.YtfoflgciceckoaaGreatDoor.Rf
open Go Go.RowKit Go.Sort Go.Proofs.YtfoflgciceckoaaGreatDoor.Mir
/-! ### A number's text reads back -/
theorem valN_app : ∀ (s t : List UInt8) (n : Nat), valN (s ++ t) n = valN t (valN s n)
  | [], _, _ => rfl
  | c :: s, t, n => valN_app s t _
theorem dg_nat {n : Nat} (h : n < 10) : (dg n).toNat = 48 + n := by
  unfold dg
  rw [UInt8.toNat_ofNat', Nat.mod_eq_of_lt (by omega)]
theorem dg_isD {n : Nat} (h : n < 10) : isD (dg n) = true := isD_iff.2 (by rw [dg_nat h]; omega)
theorem digsF_isD : ∀ (f u : Nat), (digsF f u).all isD = true
  | 0, _ => rfl
  | f + 1, u => by
    unfold digsF
    split
    · rename_i h; simp [dg_isD h]
    · rw [List.all_append, digsF_isD f]; simp [dg_isD (Nat.mod_lt u (by decide))]
theorem digsF_val : ∀ (f u : Nat), u < 10 ^ f → valN (digsF f u) 0 = u
  | 0, u, h => by simp at h; subst h; rfl
  | f + 1, u, h => by
    unfold digsF
    split
    · rename_i hu
      show 0 * 10 + ((dg u).toNat - 48) = u
      rw [dg_nat hu]; omega
    · have h10 : 10 ^ (f + 1) = 10 * 10 ^ f := by rw [Nat.pow_succ, Nat.mul_comm]
      rw [valN_app, digsF_val f (u / 10) (by omega)]
      show u / 10 * 10 + ((dg (u % 10)).toNat - 48) = u
      rw [dg_nat (Nat.mod_lt u (by decide))]; omega
theorem lead0_app {s : List UInt8} (t : List UInt8) (h : lead0 s = false) (h2 : s ≠ [48]) : lead0 (s ++ t) = false := by
  match s, h, h2 with
  | [c], _, h2 =>
    cases t with
    | nil => rfl
    | cons d t =>
      show (c == 48) = false
      simpa using fun e => h2 (by rw [e])
  | c :: d :: s, h, _ => exact h
theorem digsF_lead : ∀ (f u : Nat), 1 ≤ f → u < 10 ^ f → lead0 (digsF f u) = false ∧ (1 ≤ u → ∀ c t, digsF f u = c :: t → c ≠ 48)
  | 0, _, h, _ => absurd h (by decide)
  | f + 1, u, _, h => by
    unfold digsF
    split
    · rename_i hu
      refine ⟨rfl, fun h1 c t e => ?_⟩
      cases e
      intro e
      have := dg_nat hu
      rw [e] at this
      have h48 : (48 : UInt8).toNat = 48 := rfl
      omega
    · rename_i hu
      have h10 : 10 ^ (f + 1) = 10 * 10 ^ f := by rw [Nat.pow_succ, Nat.mul_comm]
      have hf : 1 ≤ f := by
        rcases Nat.eq_zero_or_pos f with rfl | h
        · simp at h; omega
        · exact h
      obtain ⟨q1, q2⟩ := digsF_lead f (u / 10) hf (by omega)
      have q2 := q2 (by omega)
      refine ⟨lead0_app _ q1 fun e => q2 _ _ e rfl, fun _ c t e => ?_⟩
      cases hd : digsF f (u / 10) with
      | nil => rw [hd] at q1; cases q1
      | cons a s =>
        rw [hd] at e
        cases e
        exact q2 _ _ hd
theorem pow20 {u : Nat} (h : u < 9223372036854775808) : u < 10 ^ 20 := Nat.lt_of_lt_of_le h (by decide)
theorem text_whole {n : Int} (h0 : 0 ≤ n) (h1 : n < 9223372036854775808) : wholeB (textV n) = true ∧ (valN (textV n) 0 : Int) = n ∧ (textV n).all isD = true := by
  have e : textV n = digs n.toNat := by unfold textV; rw [dF (by omega)]; rfl
  rw [e]
  unfold digs
  have hp := pow20 (u := n.toNat) (by omega)
  refine ⟨?_, by rw [digsF_val 20 _ hp]; omega, digsF_isD 20 _⟩
  unfold wholeB
  rw [digsF_isD, (digsF_lead 20 _ (by decide) hp).1]
  rfl
theorem text_cnt {n most : Int} (h0 : 0 ≤ n) (h1 : n ≤ most) (h2 : n < 9223372036854775808) : cntP (textV n) most = (n, 0) := by
  obtain ⟨q1, q2, _⟩ := text_whole h0 h2
  unfold cntP
  rw [q1, Bool.not_true, cond_false, overP_ge (by omega), q2]
/-! ### Thousandths -/
def dsA (s : List UInt8) : List UInt8 := s.take (fiB 46 s)
def dsB (s : List UInt8) : List UInt8 := s.drop (fiB 46 s + 1)
def dsC (s : List UInt8) : Bool := decide (fiB 46 s < s.length)
noncomputable def dsplit_W : FnW E := fn13 (E := E) .str .str .str .bool okL1 dsA dsB dsC
def dsplit_id : FuncId := 116
noncomputable def dsplit_O : Oracle E := orac [] [] [] []
noncomputable def dsplit_H : Hint E := Hint.mk [(0, [0, 7, 8])] [] [] [] []
noncomputable def dsplit_C0 (v0 : List UInt8) (v1 v2 : Int) : ASt E := ASt.mk 24 [(0, .d (.str v0)), (7, .d (.int .i64 v1)), (8, .d (.int .i64 v2))] [] 0
noncomputable def dsplit_t (G : Nat → ASt E → Option (List (TV E))) (x0 : List UInt8) : Option (List (TV E)) :=
  G 0 (dsplit_C0 x0 (x0.length : Int) (0 : Int))
theorem dsplit_e (G : Nat → ASt E → Option (List (TV E))) (x0 : List UInt8) : runE dsplit_O dsplit_H G Tryz.f116 [⟨.str, x0⟩] = dsplit_t G x0 := by kernel_rfl
noncomputable def dsplit_t0 (G : Nat → ASt E → Option (List (TV E))) (v0 : List UInt8) (v1 v2 : Int) : Option (List (TV E)) :=
  bif (decide (v2 < v1)) then (bif (decide ((0 : Int) ≤ v2) && decide (v2 < (v0.length : Int))) then (bif ((((List.getD v0 (Int.toNat v2) 0).toNat : Nat) : Int) == (46 : Int)) then (bif (decide ((0 : Int) ≤ (0 : Int)) && decide ((0 : Int) ≤ v2) && decide (v2 ≤ (v0.length : Int))) then (bif (decide ((0 : Int) ≤ (w64 (v2 + (1 : Int)))) && decide ((w64 (v2 + (1 : Int))) ≤ (v0.length : Int)) && decide ((v0.length : Int) ≤ (v0.length : Int))) then some [⟨.str, (List.take (Int.toNat v2 - Int.toNat (0 : Int)) (List.drop (Int.toNat (0 : Int)) v0))⟩, ⟨.str, (List.take (Int.toNat (v0.length : Int) - Int.toNat (w64 (v2 + (1 : Int)))) (List.drop (Int.toNat (w64 (v2 + (1 : Int)))) v0))⟩, ⟨.bool, true⟩] else none) else none) else G 0 (dsplit_C0 v0 v1 (w64 (v2 + (1 : Int))))) else none) else some [⟨.str, v0⟩, ⟨.str, ([] : List UInt8)⟩, ⟨.bool, false⟩]
theorem dsplit_l0 (G : Nat → ASt E → Option (List (TV E))) (v0 : List UInt8) (v1 v2 : Int) : runL dsplit_O dsplit_H G Tryz.f116 0 (dsplit_C0 v0 v1 v2) = dsplit_t0 G v0 v1 v2 := by kernel_rfl
theorem dsplit_f : Tryz.prog.funcs[116]? = some Tryz.f116 := by kernel_rfl
theorem dsplit_n : (Tryz.f116.name == "runtime.NumGoroutine") = false := by kernel_rfl
theorem dsplit_b : Tryz.f116.body.isNone = false := by kernel_rfl
theorem dsplit_ex : ∃ fn, Tryz.prog.funcs[116]? = some fn ∧ (fn.name == "runtime.NumGoroutine") = false ∧ fn.body.isNone = false := ⟨Tryz.f116, dsplit_f, dsplit_n, dsplit_b⟩
theorem dsplit_hO : OracleOk E dsplit_O := orac_ok .nil .nil .nil .nil
theorem dsplit_s0 {res : List (TV E)} {v0 : List UInt8} {v1 v2 : Int} (h : dsplit_t0 (Gr E Tryz.f116 res) v0 v1 v2 = some res) : Ev E Tryz.f116 res 0 (dsplit_C0 v0 v1 v2) := Ev.step dsplit_hO mix ((dsplit_l0 _ v0 v1 v2).trans h)
theorem dsplit_ok_of (h : ∀ (x0 : List UInt8), okL1 x0 = true → dsplit_t (Gr E Tryz.f116 [⟨.str, dsA x0⟩, ⟨.str, dsB x0⟩, ⟨.bool, dsC x0⟩]) x0 = some [⟨.str, dsA x0⟩, ⟨.str, dsB x0⟩, ⟨.bool, dsC x0⟩]) : FnOk E dsplit_id dsplit_W := fn13_ok dsplit_hO mix dsplit_f dsplit_n dsplit_b (fun x0 hk => (dsplit_e _ x0).trans (h x0 hk))
theorem dsplit_0 (s : List UInt8) (hs : s.length ≤ 1000000) : ∀ (m i : Nat), s.length - i = m → i ≤ s.length → fiB 46 s = i + fiB 46 (s.drop i) →
    Ev E Tryz.f116 [⟨.str, dsA s⟩, ⟨.str, dsB s⟩, ⟨.bool, dsC s⟩] 0 (dsplit_C0 s s.length i) := by
  intro m
  induction m with
  | zero =>
    intro i h1 h2 h3
    refine dsplit_s0 ?_
    simp only [dsplit_t0, dge (show s.length ≤ i by omega), cond_false]
    rw [List.drop_eq_nil_of_le (show s.length ≤ i by omega)] at h3
    have h3 : fiB 46 s = i + 0 := h3
    unfold dsA dsB dsC
    rw [List.take_of_length_le (by omega), List.drop_eq_nil_of_le (by omega), dF (by omega)]
  | succ m ih =>
    intro i h1 h2 h3
    have hi : i < s.length := by omega
    have e1 : w64 ((i : Int) + 1) = ((i + 1 : Nat) : Int) := by rw [w64_id (by omega) (by omega)]; omega
    refine dsplit_s0 ?_
    simp only [dsplit_t0, dlt hi, d0, Bool.and_self, cond_true, e1, Int.toNat_natCast, dle h2, dle (show i + 1 ≤ s.length by omega), dle (Nat.le_refl s.length)]
    rw [drop_at hi, fiB] at h3
    cases hc : ((List.getD s i 0).toNat : Int) == 46 with
    | true =>
      rw [hc, cond_true] at h3
      have h3 : fiB 46 s = i := h3
      unfold dsA dsB dsC
      rw [h3, dT (show i < s.length from hi), List.take_of_length_le (show (List.drop (i + 1) s).length ≤ s.length - (i + 1) by rw [List.length_drop]; exact Nat.le_refl _)]
      rfl
    | false =>
      rw [hc, cond_false] at h3
      exact Gr_of (ih (i + 1) (by omega) (by omega) (by omega))
theorem dsplit_ok : FnOk E dsplit_id dsplit_W := dsplit_ok_of fun s hk =>
  Gr_of (dsplit_0 s (okL1_iff.1 hk) _ 0 rfl (Nat.zero_le _) (by rw [List.drop_zero, Nat.zero_add]))
def lasD (t : List UInt8) : UInt8 := t.getD (t.length - 1) 0
/-- Is what stands behind the point wrong? -/
def badT (t : List UInt8) : Bool := bif (bif decide ((t.length : Int) < 1) then true else decide ((3 : Int) < (t.length : Int))) then true else (((lasD t).toNat : Nat) : Int) == 48
def padT (t : List UInt8) : List UInt8 := t ++ List.replicate (3 - t.length) 48
def milR (h t : List UInt8) : Int × Int := bif !(t.all isD) then (0, 3) else bif !(wholeB h) then (0, 3) else
  bif (bif decide ((9007199254740 : Int) < (valN h 0 : Int)) then true else decide ((9007199254740992 : Int) < (valN h 0 : Int) * 1000 + (valN (padT t) 0 : Int))) then (0, 9) else ((valN h 0 : Int) * 1000 + (valN (padT t) 0 : Int), 0)
def milP (s : List UInt8) : Int × Int := bif (bif dsC s then badT (dsB s) else false) then (0, 3) else milR (dsA s) (dsB s)
def milV (s : List UInt8) : Int := (milP s).1
def milE (s : List UInt8) : Int := (milP s).2
theorem dsB_no {s : List UInt8} (h : dsC s = false) : dsB s = [] := by
  unfold dsC at h
  unfold dsB
  exact List.drop_eq_nil_of_le (by have := of_decide_eq_false h; omega)
theorem badT_no {t : List UInt8} (h : badT t = false) : t.length ≤ 3 := by
  unfold badT at h
  by_cases h1 : (3 : Int) < (t.length : Int)
  · rw [dT h1] at h
    cases hq : decide ((t.length : Int) < 1) <;> rw [hq] at h <;> cases h
  · omega
theorem dsA_len (s : List UInt8) : (dsA s).length ≤ s.length := by unfold dsA; rw [List.length_take]; omega
theorem mlast {t : List UInt8} (h : t.length ≤ 1000000) : (decide ((0 : Int) ≤ w64 ((t.length : Int) - 1)) && decide (w64 ((t.length : Int) - 1) < (t.length : Int)) || !(!(bif decide ((t.length : Int) < 1) then true else decide ((3 : Int) < (t.length : Int))))) = true ∧
    (bif (bif decide ((t.length : Int) < 1) then true else decide ((3 : Int) < (t.length : Int))) then true else ((List.getD t (Int.toNat (w64 ((t.length : Int) - 1))) 0).toNat : Int) == 48) = badT t := by
  unfold badT lasD
  by_cases h1 : (t.length : Int) < 1
  · rw [dT h1]; exact ⟨by simp, rfl⟩
  · rw [dF h1, w64_id (by omega) (by omega), dT (show (0 : Int) ≤ (t.length : Int) - 1 by omega), dT (show (t.length : Int) - 1 < (t.length : Int) by omega), show ((t.length : Int) - 1).toNat = t.length - 1 by omega]
    exact ⟨rfl, rfl⟩
noncomputable def dmilli_W : FnW E := fn12 (E := E) .str .int .api_Errno okL1 milV milE
def dmilli_id : FuncId := 60
noncomputable def dmilli_O : Oracle E := orac [(116, dsplit_W), (115, pwhole_W)] [] [] []
noncomputable def dmilli_H : Hint E := Hint.mk [(0, [4, 5, 7, 34])] [] [] [] []
noncomputable def dmilli_C0 (v0 v1 : List UInt8) (v2 v3 : Int) : ASt E := ASt.mk 80 [(4, .d (.str v0)), (5, .d (.str v1)), (7, .d (.int .i64 v2)), (34, .d (.int .i64 v3))] [] 0
noncomputable def dmilli_t (G : Nat → ASt E → Option (List (TV E))) (x0 : List UInt8) : Option (List (TV E)) :=
  bif (okL1 x0) then (bif (dsC x0) then (bif ((decide ((0 : Int) ≤ (w64 (((dsB x0).length : Int) - (1 : Int)))) && decide ((w64 (((dsB x0).length : Int) - (1 : Int))) < ((dsB x0).length : Int))) || !(!(bif (decide (((dsB x0).length : Int) < (1 : Int))) then true else (decide ((3 : Int) < ((dsB x0).length : Int)))))) then (bif (bif (bif (decide (((dsB x0).length : Int) < (1 : Int))) then true else (decide ((3 : Int) < ((dsB x0).length : Int)))) then true else ((((List.getD (dsB x0) (Int.toNat (w64 (((dsB x0).length : Int) - (1 : Int)))) 0).toNat : Nat) : Int) == (48 : Int))) then some [⟨.int, (0 : Int)⟩, ⟨.api_Errno, (3 : Int)⟩] else G 0 (dmilli_C0 (dsA x0) (dsB x0) (0 : Int) (0 : Int))) else none) else G 0 (dmilli_C0 (dsA x0) (dsB x0) (0 : Int) (0 : Int))) else none
theorem dmilli_e (G : Nat → ASt E → Option (List (TV E))) (x0 : List UInt8) : runE dmilli_O dmilli_H G Tryz.f60 [⟨.str, x0⟩] = dmilli_t G x0 := by kernel_rfl
noncomputable def dmilli_t0 (G : Nat → ASt E → Option (List (TV E))) (v0 v1 : List UInt8) (v2 v3 : Int) : Option (List (TV E)) :=
  bif (decide (v3 < (3 : Int))) then (bif (decide ((v1.length : Int) ≤ v3)) then G 0 (dmilli_C0 v0 v1 (w64 (v2 * (10 : Int))) (w64 (v3 + (1 : Int)))) else (bif (decide ((0 : Int) ≤ v3) && decide (v3 < (v1.length : Int))) then (bif ((decide ((0 : Int) ≤ v3) && decide (v3 < (v1.length : Int))) || !(!(decide ((((List.getD v1 (Int.toNat v3) 0).toNat : Nat) : Int) < (48 : Int))))) then (bif (bif (decide ((((List.getD v1 (Int.toNat v3) 0).toNat : Nat) : Int) < (48 : Int))) then true else (decide ((57 : Int) < (((List.getD v1 (Int.toNat v3) 0).toNat : Nat) : Int)))) then some [⟨.int, (0 : Int)⟩, ⟨.api_Errno, (3 : Int)⟩] else (bif (decide ((0 : Int) ≤ v3) && decide (v3 < (v1.length : Int))) then G 0 (dmilli_C0 v0 v1 (w64 ((w64 (v2 * (10 : Int))) + (w64 (IntKind.wrap .u8 ((((List.getD v1 (Int.toNat v3) 0).toNat : Nat) : Int) - (48 : Int)))))) (w64 (v3 + (1 : Int)))) else none)) else none) else none)) else (bif (pokW v0 (9007199254740 : Int)) then (bif ((pwholeE v0 (9007199254740 : Int)) != (0 : Int)) then some [⟨.int, (0 : Int)⟩, ⟨.api_Errno, (pwholeE v0 (9007199254740 : Int))⟩] else (bif (decide ((w64 ((9007199254740992 : Int) - v2)) < (w64 ((pwholeV v0 (9007199254740 : Int)) * (1000 : Int))))) then some [⟨.int, (0 : Int)⟩, ⟨.api_Errno, (9 : Int)⟩] else some [⟨.int, (w64 ((w64 ((pwholeV v0 (9007199254740 : Int)) * (1000 : Int))) + v2))⟩, ⟨.api_Errno, (0 : Int)⟩])) else none)
theorem dmilli_l0 (G : Nat → ASt E → Option (List (TV E))) (v0 v1 : List UInt8) (v2 v3 : Int) : runL dmilli_O dmilli_H G Tryz.f60 0 (dmilli_C0 v0 v1 v2 v3) = dmilli_t0 G v0 v1 v2 v3 := by kernel_rfl
theorem dmilli_f : Tryz.prog.funcs[60]? = some Tryz.f60 := by kernel_rfl
theorem dmilli_n : (Tryz.f60.name == "runtime.NumGoroutine") = false := by kernel_rfl
theorem dmilli_b : Tryz.f60.body.isNone = false := by kernel_rfl
theorem dmilli_ex : ∃ fn, Tryz.prog.funcs[60]? = some fn ∧ (fn.name == "runtime.NumGoroutine") = false ∧ fn.body.isNone = false := ⟨Tryz.f60, dmilli_f, dmilli_n, dmilli_b⟩
theorem dmilli_hO : OracleOk E dmilli_O := orac_ok (.cons dsplit_ok (.cons pwhole_ok .nil)) .nil .nil .nil
theorem dmilli_s0 {res : List (TV E)} {v0 v1 : List UInt8} {v2 v3 : Int} (h : dmilli_t0 (Gr E Tryz.f60 res) v0 v1 v2 v3 = some res) : Ev E Tryz.f60 res 0 (dmilli_C0 v0 v1 v2 v3) := Ev.step dmilli_hO mix ((dmilli_l0 _ v0 v1 v2 v3).trans h)
theorem dmilli_ok_of (h : ∀ (x0 : List UInt8), okL1 x0 = true → dmilli_t (Gr E Tryz.f60 [⟨.int, milV x0⟩, ⟨.api_Errno, milE x0⟩]) x0 = some [⟨.int, milV x0⟩, ⟨.api_Errno, milE x0⟩]) : FnOk E dmilli_id dmilli_W := fn12_ok dmilli_hO mix dmilli_f dmilli_n dmilli_b (fun x0 hk => (dmilli_e _ x0).trans (h x0 hk))
theorem sub48 {c : UInt8} (h : isD c = true) : w64 (IntKind.wrap .u8 (((c.toNat : Nat) : Int) - 48)) = ((c.toNat - 48 : Nat) : Int) := by
  have := isD_iff.1 h
  rw [u8_id (by omega) (by omega), w64_id (by omega) (by omega)]
  omega
/-- The rounds over what stands behind the point. -/
def parR : List UInt8 → Nat → Int → Option Int
  | _, 0, p => some p
  | [], k + 1, p => parR [] k (p * 10)
  | c :: t, k + 1, p => bif isD c then parR t k (p * 10 + ((c.toNat - 48 : Nat) : Int)) else none
theorem dmilli_fin (h t : List UInt8) (hh : h.length ≤ 1000000) (p : Int) (h0 : 0 ≤ p) (h1 : p < 1000) : Ev E Tryz.f60
    (let r : Int × Int := bif !(wholeB h) then (0, 3) else bif (bif decide ((9007199254740 : Int) < (valN h 0 : Int)) then true else decide ((9007199254740992 : Int) < (valN h 0 : Int) * 1000 + p)) then (0, 9) else ((valN h 0 : Int) * 1000 + p, 0)
     [⟨.int, r.1⟩, ⟨.api_Errno, r.2⟩]) 0 (dmilli_C0 h t p 3) := by
  refine dmilli_s0 ?_
  have hk : pokW h 9007199254740 = true := pokW_iff.2 ⟨⟨hh, by decide⟩, by decide⟩
  simp only [dmilli_t0, dF (show ¬ (3 : Int) < 3 by decide), cond_false, hk, cond_true, countV_eq h (most := 9007199254740) (by decide), countE_eq h (most := 9007199254740) (by decide), cntV, cntE, cntP]
  cases wholeB h with
  | false => rfl
  | true =>
    simp only [Bool.not_true, cond_false]
    by_cases hv : (9007199254740 : Int) < (valN h 0 : Int)
    · rw [overP_lt hv, dT hv]; rfl
    · rw [overP_ge hv, dF hv]
      have e1 : w64 ((9007199254740992 : Int) - p) = 9007199254740992 - p := w64_id (by omega) (by omega)
      have e2 : w64 ((valN h 0 : Int) * 1000) = (valN h 0 : Int) * 1000 := w64_id (by omega) (by omega)
      have e3 : w64 ((valN h 0 : Int) * 1000 + p) = (valN h 0 : Int) * 1000 + p := w64_id (by omega) (by omega)
      have e4 : decide ((9007199254740992 : Int) - p < (valN h 0 : Int) * 1000) = decide ((9007199254740992 : Int) < (valN h 0 : Int) * 1000 + p) := decide_eq_decide.2 (by omega)
      simp only [e1, e2, e3, e4, cond_false, show ((0 : Int) != 0) = false from rfl]
      cases decide ((9007199254740992 : Int) < (valN h 0 : Int) * 1000 + p) <;> rfl
theorem dmilli_0 (h t : List UInt8) (hh : h.length ≤ 1000000) (ht : t.length ≤ 1000000) : ∀ (k i : Nat) (p : Int), i + k = 3 → 0 ≤ p → p < 10 ^ i → Ev E Tryz.f60
    (let r : Int × Int := match parR (t.drop i) k p with
      | none => (0, 3)
      | some p => bif !(wholeB h) then (0, 3) else bif (bif decide ((9007199254740 : Int) < (valN h 0 : Int)) then true else decide ((9007199254740992 : Int) < (valN h 0 : Int) * 1000 + p)) then (0, 9) else ((valN h 0 : Int) * 1000 + p, 0)
     [⟨.int, r.1⟩, ⟨.api_Errno, r.2⟩]) 0 (dmilli_C0 h t p i) := by
  intro k
  induction k with
  | zero =>
    intro i p h1 h2 h3
    obtain rfl : i = 3 := h1
    have e : parR (t.drop 3) 0 p = some p := by cases t.drop 3 <;> rfl
    rw [e]
    exact dmilli_fin h t hh p h2 (by simpa using h3)
  | succ k ih =>
    intro i p h1 h2 h3
    have hp : (10 : Int) ^ i ≤ 100 := by
      have : i = 0 ∨ i = 1 ∨ i = 2 := by omega
      rcases this with rfl | rfl | rfl <;> decide
    have hp1 : (10 : Int) ^ (i + 1) = 10 ^ i * 10 := Int.pow_succ 10 i
    have e1 : w64 ((i : Int) + 1) = ((i + 1 : Nat) : Int) := by rw [w64_id (by omega) (by omega)]; omega
    have e2 : w64 (p * 10) = p * 10 := w64_id (by omega) (by omega)
    refine dmilli_s0 ?_
    rw [dmilli_t0, dT (show (i : Int) < 3 by omega), cond_true]
    by_cases hi : i < t.length
    · rw [dF (show ¬ (t.length : Int) ≤ (i : Int) by omega), drop_at hi, parR]
      simp only [dlt hi, d0, Bool.and_self, Bool.true_or, cond_true, cond_false, e1, e2, Int.toNat_natCast, bad1_eq]
      cases hc : isD (t.getD i 0) with
      | false => rfl
      | true =>
        have := isD_iff.1 hc
        simp only [Bool.not_true, cond_false, cond_true]
        rw [sub48 hc, w64_id (by omega) (by omega)]
        exact Gr_of (ih (i + 1) _ (by omega) (by omega) (by omega))
    · rw [dT (show (t.length : Int) ≤ (i : Int) by omega), cond_true, e1, e2]
      have := ih (i + 1) (p * 10) (by omega) (by omega) (by omega)
      rw [List.drop_eq_nil_of_le (show t.length ≤ i + 1 by omega)] at this
      rw [List.drop_eq_nil_of_le (show t.length ≤ i by omega)]
      exact Gr_of this
theorem parR_nil : ∀ (k : Nat) (p : Nat), parR [] k p = some (valN (List.replicate k 48) p : Int)
  | 0, p => rfl
  | k + 1, p => by
    rw [parR, show (p : Int) * 10 = ((p * 10 : Nat) : Int) by omega, parR_nil k, List.replicate_succ]
    rfl
theorem parR_eq : ∀ (t : List UInt8) (k p : Nat), t.length ≤ k → parR t k p = bif t.all isD then some (valN (t ++ List.replicate (k - t.length) 48) p : Int) else none
  | [], k, p, _ => parR_nil k p
  | c :: t, 0, p, h => by simp at h
  | c :: t, k + 1, p, h => by
    rw [parR, List.all_cons]
    cases isD c with
    | false => rfl
    | true =>
      simp only [cond_true, Bool.true_and]
      have hl : t.length ≤ k := by simp only [List.length_cons] at h; omega
      rw [show (p : Int) * 10 + ((c.toNat - 48 : Nat) : Int) = ((p * 10 + (c.toNat - 48) : Nat) : Int) by omega, parR_eq t k _ hl, List.length_cons, show k + 1 - (t.length + 1) = k - t.length by omega]
      rfl
theorem dmilli_ok : FnOk E dmilli_id dmilli_W := dmilli_ok_of fun s hk => by
  have hs := okL1_iff.1 hk
  have ht : (dsB s).length ≤ 1000000 := by unfold dsB; rw [List.length_drop]; omega
  obtain ⟨l1, l2⟩ := mlast ht
  have fin : (dsB s).length ≤ 3 → Ev E Tryz.f60 [⟨.int, (milR (dsA s) (dsB s)).1⟩, ⟨.api_Errno, (milR (dsA s) (dsB s)).2⟩] 0 (dmilli_C0 (dsA s) (dsB s) 0 0) := fun h3 => by
    have := dmilli_0 (dsA s) (dsB s) (Nat.le_trans (dsA_len s) hs) ht 3 0 0 rfl (by decide) (by decide)
    rw [List.drop_zero, show (0 : Int) = ((0 : Nat) : Int) from rfl, parR_eq _ 3 0 h3] at this
    unfold milR padT
    cases hd : (dsB s).all isD with
    | false => rw [hd] at this; exact this
    | true => rw [hd] at this; exact this
  unfold milV milE milP
  simp only [dmilli_t, hk, cond_true, l1, l2]
  cases hc : dsC s with
  | false => exact Gr_of (fin (by rw [dsB_no hc]; exact Nat.zero_le _))
  | true =>
    simp only [cond_true]
    cases hb : badT (dsB s) with
    | true => rfl
    | false => exact Gr_of (fin (badT_no hb))
noncomputable def rmil_W : FnW E := fn12 (E := E) .str .int .api_Errno okL1 milV milE
def rmil_id : FuncId := 83
noncomputable def rmil_O : Oracle E := orac [(134, rvalue_W), (133, rwhole_W)] [] [] []
noncomputable def rmil_H : Hint E := Hint.mk [(0, [0, 4]), (1, [0, 4, 5, 6]), (2, [0, 4, 5])] [] [] [] []
noncomputable def rmil_C0 (v0 : List UInt8) (v1 : Int) : ASt E := ASt.mk 89 [(0, .d (.str v0)), (4, .d (.int .i64 v1))] [] 0
noncomputable def rmil_C1 (v0 : List UInt8) (v1 : Int) (v2 : List UInt8) (v3 : Int) : ASt E := ASt.mk 89 [(0, .d (.str v0)), (4, .d (.int .i64 v1)), (5, .d (.str v2)), (6, .d (.int .i64 v3))] [] 0
noncomputable def rmil_C2 (v0 : List UInt8) (v1 : Int) (v2 : List UInt8) : ASt E := ASt.mk 89 [(0, .d (.str v0)), (4, .d (.int .i64 v1)), (5, .d (.str v2))] [] 0
noncomputable def rmil_t (G : Nat → ASt E → Option (List (TV E))) (x0 : List UInt8) : Option (List (TV E)) :=
  G 0 (rmil_C0 x0 (0 : Int))
theorem rmil_e (G : Nat → ASt E → Option (List (TV E))) (x0 : List UInt8) : runE rmil_O rmil_H G Tryz.f83 [⟨.str, x0⟩] = rmil_t G x0 := by kernel_rfl
noncomputable def rmil_t0 (G : Nat → ASt E → Option (List (TV E))) (v0 : List UInt8) (v1 : Int) : Option (List (TV E)) :=
  bif ((decide ((0 : Int) ≤ v1) && decide (v1 < (v0.length : Int))) || !(decide (v1 < (v0.length : Int)))) then (bif (bif (decide (v1 < (v0.length : Int))) then ((((List.getD v0 (Int.toNat v1) 0).toNat : Nat) : Int) != (46 : Int)) else false) then G 0 (rmil_C0 v0 (w64 (v1 + (1 : Int)))) else (bif (decide (v1 < (v0.length : Int))) then (bif (decide ((0 : Int) ≤ (w64 (v1 + (1 : Int)))) && decide ((w64 (v1 + (1 : Int))) ≤ (v0.length : Int)) && decide ((v0.length : Int) ≤ (v0.length : Int))) then (bif ((decide ((0 : Int) ≤ (w64 (((List.take (Int.toNat (v0.length : Int) - Int.toNat (w64 (v1 + (1 : Int)))) (List.drop (Int.toNat (w64 (v1 + (1 : Int)))) v0)).length : Int) - (1 : Int)))) && decide ((w64 (((List.take (Int.toNat (v0.length : Int) - Int.toNat (w64 (v1 + (1 : Int)))) (List.drop (Int.toNat (w64 (v1 + (1 : Int)))) v0)).length : Int) - (1 : Int))) < ((List.take (Int.toNat (v0.length : Int) - Int.toNat (w64 (v1 + (1 : Int)))) (List.drop (Int.toNat (w64 (v1 + (1 : Int)))) v0)).length : Int))) || !(!(bif (decide (((List.take (Int.toNat (v0.length : Int) - Int.toNat (w64 (v1 + (1 : Int)))) (List.drop (Int.toNat (w64 (v1 + (1 : Int)))) v0)).length : Int) < (1 : Int))) then true else (decide ((3 : Int) < ((List.take (Int.toNat (v0.length : Int) - Int.toNat (w64 (v1 + (1 : Int)))) (List.drop (Int.toNat (w64 (v1 + (1 : Int)))) v0)).length : Int)))))) then (bif (bif (bif (decide (((List.take (Int.toNat (v0.length : Int) - Int.toNat (w64 (v1 + (1 : Int)))) (List.drop (Int.toNat (w64 (v1 + (1 : Int)))) v0)).length : Int) < (1 : Int))) then true else (decide ((3 : Int) < ((List.take (Int.toNat (v0.length : Int) - Int.toNat (w64 (v1 + (1 : Int)))) (List.drop (Int.toNat (w64 (v1 + (1 : Int)))) v0)).length : Int)))) then true else ((((List.getD (List.take (Int.toNat (v0.length : Int) - Int.toNat (w64 (v1 + (1 : Int)))) (List.drop (Int.toNat (w64 (v1 + (1 : Int)))) v0)) (Int.toNat (w64 (((List.take (Int.toNat (v0.length : Int) - Int.toNat (w64 (v1 + (1 : Int)))) (List.drop (Int.toNat (w64 (v1 + (1 : Int)))) v0)).length : Int) - (1 : Int)))) 0).toNat : Nat) : Int) == (48 : Int))) then some [⟨.int, (0 : Int)⟩, ⟨.api_Errno, (3 : Int)⟩] else (bif (decide ((0 : Int) ≤ (0 : Int)) && decide ((0 : Int) ≤ v1) && decide (v1 ≤ (v0.length : Int))) then (bif (okL1 (List.take (Int.toNat v1 - Int.toNat (0 : Int)) (List.drop (Int.toNat (0 : Int)) v0))) then (bif (!(wholeB (List.take (Int.toNat v1 - Int.toNat (0 : Int)) (List.drop (Int.toNat (0 : Int)) v0)))) then some [⟨.int, (0 : Int)⟩, ⟨.api_Errno, (3 : Int)⟩] else G 1 (rmil_C1 v0 v1 (List.take (Int.toNat (v0.length : Int) - Int.toNat (w64 (v1 + (1 : Int)))) (List.drop (Int.toNat (w64 (v1 + (1 : Int)))) v0)) (0 : Int))) else none) else none)) else none) else none) else (bif (decide ((0 : Int) ≤ (0 : Int)) && decide ((0 : Int) ≤ v1) && decide (v1 ≤ (v0.length : Int))) then (bif (okL1 (List.take (Int.toNat v1 - Int.toNat (0 : Int)) (List.drop (Int.toNat (0 : Int)) v0))) then (bif (!(wholeB (List.take (Int.toNat v1 - Int.toNat (0 : Int)) (List.drop (Int.toNat (0 : Int)) v0)))) then some [⟨.int, (0 : Int)⟩, ⟨.api_Errno, (3 : Int)⟩] else G 1 (rmil_C1 v0 v1 ([] : List UInt8) (0 : Int))) else none) else none))) else none
theorem rmil_l0 (G : Nat → ASt E → Option (List (TV E))) (v0 : List UInt8) (v1 : Int) : runL rmil_O rmil_H G Tryz.f83 0 (rmil_C0 v0 v1) = rmil_t0 G v0 v1 := by kernel_rfl
noncomputable def rmil_t1 (G : Nat → ASt E → Option (List (TV E))) (v0 : List UInt8) (v1 : Int) (v2 : List UInt8) (v3 : Int) : Option (List (TV E)) :=
  bif (decide (v3 < (v2.length : Int))) then (bif (decide ((0 : Int) ≤ v3) && decide (v3 < (v2.length : Int))) then (bif ((decide ((0 : Int) ≤ v3) && decide (v3 < (v2.length : Int))) || !(!(decide ((((List.getD v2 (Int.toNat v3) 0).toNat : Nat) : Int) < (48 : Int))))) then (bif (bif (decide ((((List.getD v2 (Int.toNat v3) 0).toNat : Nat) : Int) < (48 : Int))) then true else (decide ((57 : Int) < (((List.getD v2 (Int.toNat v3) 0).toNat : Nat) : Int)))) then some [⟨.int, (0 : Int)⟩, ⟨.api_Errno, (3 : Int)⟩] else G 1 (rmil_C1 v0 v1 v2 (w64 (v3 + (1 : Int))))) else none) else none) else G 2 (rmil_C2 v0 v1 v2)
theorem rmil_l1 (G : Nat → ASt E → Option (List (TV E))) (v0 : List UInt8) (v1 : Int) (v2 : List UInt8) (v3 : Int) : runL rmil_O rmil_H G Tryz.f83 1 (rmil_C1 v0 v1 v2 v3) = rmil_t1 G v0 v1 v2 v3 := by kernel_rfl
noncomputable def rmil_t2 (G : Nat → ASt E → Option (List (TV E))) (v0 : List UInt8) (v1 : Int) (v2 : List UInt8) : Option (List (TV E)) :=
  bif (decide ((v2.length : Int) < (3 : Int))) then (bif (decide (v2.length + ([48] : List UInt8).length ≤ maxStr)) then G 2 (rmil_C2 v0 v1 (v2 ++ ([48] : List UInt8))) else none) else (bif (decide ((0 : Int) ≤ (0 : Int)) && decide ((0 : Int) ≤ v1) && decide (v1 ≤ (v0.length : Int))) then (bif (okD (List.take (Int.toNat v1 - Int.toNat (0 : Int)) (List.drop (Int.toNat (0 : Int)) v0))) then (bif ((okD v2) || !(!(decide ((9007199254740 : Int) < (rvalueV (List.take (Int.toNat v1 - Int.toNat (0 : Int)) (List.drop (Int.toNat (0 : Int)) v0))))))) then (bif (bif (decide ((9007199254740 : Int) < (rvalueV (List.take (Int.toNat v1 - Int.toNat (0 : Int)) (List.drop (Int.toNat (0 : Int)) v0))))) then true else (decide ((9007199254740992 : Int) < (w64 ((w64 ((rvalueV (List.take (Int.toNat v1 - Int.toNat (0 : Int)) (List.drop (Int.toNat (0 : Int)) v0))) * (1000 : Int))) + (rvalueV v2)))))) then some [⟨.int, (0 : Int)⟩, ⟨.api_Errno, (9 : Int)⟩] else (bif (okD v2) then some [⟨.int, (w64 ((w64 ((rvalueV (List.take (Int.toNat v1 - Int.toNat (0 : Int)) (List.drop (Int.toNat (0 : Int)) v0))) * (1000 : Int))) + (rvalueV v2)))⟩, ⟨.api_Errno, (0 : Int)⟩] else none)) else none) else none) else none)
theorem rmil_l2 (G : Nat → ASt E → Option (List (TV E))) (v0 : List UInt8) (v1 : Int) (v2 : List UInt8) : runL rmil_O rmil_H G Tryz.f83 2 (rmil_C2 v0 v1 v2) = rmil_t2 G v0 v1 v2 := by kernel_rfl
theorem rmil_f : Tryz.prog.funcs[83]? = some Tryz.f83 := by kernel_rfl
theorem rmil_n : (Tryz.f83.name == "runtime.NumGoroutine") = false := by kernel_rfl
theorem rmil_b : Tryz.f83.body.isNone = false := by kernel_rfl
theorem rmil_ex : ∃ fn, Tryz.prog.funcs[83]? = some fn ∧ (fn.name == "runtime.NumGoroutine") = false ∧ fn.body.isNone = false := ⟨Tryz.f83, rmil_f, rmil_n, rmil_b⟩
theorem rmil_hO : OracleOk E rmil_O := orac_ok (.cons rvalue_ok (.cons rwhole_ok .nil)) .nil .nil .nil
theorem rmil_s0 {res : List (TV E)} {v0 : List UInt8} {v1 : Int} (h : rmil_t0 (Gr E Tryz.f83 res) v0 v1 = some res) : Ev E Tryz.f83 res 0 (rmil_C0 v0 v1) := Ev.step rmil_hO mix ((rmil_l0 _ v0 v1).trans h)
theorem rmil_s1 {res : List (TV E)} {v0 : List UInt8} {v1 : Int} {v2 : List UInt8} {v3 : Int} (h : rmil_t1 (Gr E Tryz.f83 res) v0 v1 v2 v3 = some res) : Ev E Tryz.f83 res 1 (rmil_C1 v0 v1 v2 v3) := Ev.step rmil_hO mix ((rmil_l1 _ v0 v1 v2 v3).trans h)
theorem rmil_s2 {res : List (TV E)} {v0 : List UInt8} {v1 : Int} {v2 : List UInt8} (h : rmil_t2 (Gr E Tryz.f83 res) v0 v1 v2 = some res) : Ev E Tryz.f83 res 2 (rmil_C2 v0 v1 v2) := Ev.step rmil_hO mix ((rmil_l2 _ v0 v1 v2).trans h)
theorem rmil_ok_of (h : ∀ (x0 : List UInt8), okL1 x0 = true → rmil_t (Gr E Tryz.f83 [⟨.int, milV x0⟩, ⟨.api_Errno, milE x0⟩]) x0 = some [⟨.int, milV x0⟩, ⟨.api_Errno, milE x0⟩]) : FnOk E rmil_id rmil_W := fn12_ok rmil_hO mix rmil_f rmil_n rmil_b (fun x0 hk => (rmil_e _ x0).trans (h x0 hk))
theorem rmil_2 (s t : List UInt8) (hs : s.length ≤ 1000000) (a : Nat) (ha : a ≤ s.length) (hw : wholeB (s.take a) = true) : ∀ (m : Nat) (v : List UInt8), 3 - v.length = m → v.length ≤ 3 → v.all isD = true → padT v = padT t → Ev E Tryz.f83
    (let r : Int × Int := bif (bif decide ((9007199254740 : Int) < (valN (s.take a) 0 : Int)) then true else decide ((9007199254740992 : Int) < (valN (s.take a) 0 : Int) * 1000 + (valN (padT t) 0 : Int))) then (0, 9) else ((valN (s.take a) 0 : Int) * 1000 + (valN (padT t) 0 : Int), 0)
     [⟨.int, r.1⟩, ⟨.api_Errno, r.2⟩]) 2 (rmil_C2 s a v) := by
  intro m
  induction m with
  | zero =>
    intro v h1 h2 h3 h4
    have hp : padT t = v := by rw [← h4]; unfold padT; rw [h1]; simp
    have hv : valN v 0 < 1000 := by
      have := valN_lt v 0 h3
      have h : v.length = 3 := by omega
      rw [h] at this
      simpa using this
    have hsA : okD (s.take a) = true := okD_iff.2 ⟨by rw [List.length_take]; omega, by
      unfold wholeB at hw
      rw [Bool.and_eq_true] at hw
      exact hw.2⟩
    have hsB : okD v = true := okD_iff.2 ⟨by omega, h3⟩
    rw [hp]
    refine rmil_s2 ?_
    simp only [rmil_t2, dF (show ¬ (v.length : Int) < 3 by omega), cond_true, cond_false, d0, dle ha, Bool.and_self, Int.toNat_natCast, show Int.toNat (0 : Int) = 0 from rfl, Nat.sub_zero, List.drop_zero, show decide ((0 : Int) ≤ (0 : Int)) = true from rfl, hsA, hsB, Bool.true_or]
    unfold rvalueV
    rw [satV_lt (show valN v 0 < 72057594037927936 by omega)]
    by_cases hx : (9007199254740 : Int) < (valN (s.take a) 0 : Int)
    · have : (9007199254740 : Int) < satV (valN (s.take a) 0) := by
        by_cases h7 : valN (s.take a) 0 < 72057594037927936
        · rw [satV_lt h7]; exact hx
        · rw [satV_ge h7]; decide
      rw [dT this, dT hx]
      rfl
    · rw [satV_lt (show valN (s.take a) 0 < 72057594037927936 by omega), dF hx]
      have e2 : w64 ((valN (s.take a) 0 : Int) * 1000) = (valN (s.take a) 0 : Int) * 1000 := w64_id (by omega) (by omega)
      have e3 : w64 ((valN (s.take a) 0 : Int) * 1000 + (valN v 0 : Int)) = (valN (s.take a) 0 : Int) * 1000 + (valN v 0 : Int) := w64_id (by omega) (by omega)
      simp only [e2, e3, cond_false]
      cases decide ((9007199254740992 : Int) < (valN (s.take a) 0 : Int) * 1000 + (valN v 0 : Int)) <;> rfl
  | succ m ih =>
    intro v h1 h2 h3 h4
    have := ih (v ++ [48]) (by rw [List.length_append, List.length_singleton]; omega) (by rw [List.length_append, List.length_singleton]; omega) (by rw [List.all_append, h3]; rfl) (by
      rw [← h4]
      unfold padT
      rw [List.length_append, List.length_singleton, List.append_assoc, show 3 - v.length = (3 - (v.length + 1)) + 1 by omega, List.replicate_succ]
      rfl)
    refine rmil_s2 ?_
    simp only [rmil_t2, dT (show (v.length : Int) < 3 by omega), cond_true]
    rw [msT (show v.length + ([48] : List UInt8).length ≤ 4611686018427387904 by simp only [List.length_singleton]; omega)]
    exact Gr_of this
theorem rmil_1 (s t : List UInt8) (hs : s.length ≤ 1000000) (a : Nat) (ha : a ≤ s.length) (hw : wholeB (s.take a) = true) (ht : t.length ≤ 3) : ∀ (m i : Nat), t.length - i = m → i ≤ t.length → (t.take i).all isD = true → Ev E Tryz.f83
    [⟨.int, (milR (s.take a) t).1⟩, ⟨.api_Errno, (milR (s.take a) t).2⟩] 1 (rmil_C1 s a t i) := by
  intro m
  induction m with
  | zero =>
    intro i h1 h2 h3
    have hall : t.all isD = true := by rwa [List.take_of_length_le (by omega)] at h3
    refine rmil_s1 ?_
    simp only [rmil_t1, dge (show t.length ≤ i by omega), cond_false]
    unfold milR
    rw [hall, hw]
    exact Gr_of (rmil_2 s t hs a ha hw _ t rfl ht hall rfl)
  | succ m ih =>
    intro i h1 h2 h3
    have hi : i < t.length := by omega
    have e1 : w64 ((i : Int) + 1) = ((i + 1 : Nat) : Int) := by rw [w64_id (by omega) (by omega)]; omega
    refine rmil_s1 ?_
    simp only [rmil_t1, dlt hi, d0, Bool.and_self, Bool.true_or, cond_true, e1, Int.toNat_natCast, bad1_eq]
    cases hc : isD (t.getD i 0) with
    | false =>
      have : t.all isD = false := by
        rw [← List.take_append_drop i t, List.all_append, drop_at hi, List.all_cons, hc, Bool.false_and, Bool.and_false]
      unfold milR
      rw [this]
      rfl
    | true =>
      simp only [Bool.not_true, cond_false]
      exact Gr_of (ih (i + 1) (by omega) (by omega) (by
        rw [List.take_succ_eq_append_getElem hi, List.all_append, h3]
        have : t.getD i 0 = t[i] := by rw [List.getD, List.getElem?_eq_getElem hi]; rfl
        rw [this] at hc
        simp [hc]))
theorem rmil_0 (s : List UInt8) (hs : s.length ≤ 1000000) : ∀ (m i : Nat), s.length - i = m → i ≤ s.length → fiB 46 s = i + fiB 46 (s.drop i) →
    Ev E Tryz.f83 [⟨.int, milV s⟩, ⟨.api_Errno, milE s⟩] 0 (rmil_C0 s i) := by
  have key : ∀ (i : Nat) (b : Bool), i ≤ s.length → fiB 46 s = i → dsB s = s.drop (i + 1) → (dsC s = b) → (b = false → dsB s = []) → b = decide ((i : Int) < (s.length : Int)) → (bif b then ((List.getD s i 0).toNat : Int) != 46 else false) = false → Ev E Tryz.f83 [⟨.int, milV s⟩, ⟨.api_Errno, milE s⟩] 0 (rmil_C0 s i) := by
    intro i b h2 h3 h4 h5 h6 h7 h8
    have e1 : w64 ((i : Int) + 1) = ((i + 1 : Nat) : Int) := by rw [w64_id (by omega) (by omega)]; omega
    have hA : dsA s = s.take i := by unfold dsA; rw [h3]
    have hok : okL1 (s.take i) = true := okL1_iff.2 (by rw [List.length_take]; omega)
    have fin : (dsB s).length ≤ 3 → wholeB (s.take i) = true → Ev E Tryz.f83 [⟨.int, (milR (s.take i) (dsB s)).1⟩, ⟨.api_Errno, (milR (s.take i) (dsB s)).2⟩] 1 (rmil_C1 s i (dsB s) 0) := fun g1 g2 => rmil_1 s (dsB s) hs i h2 g2 g1 _ 0 rfl (Nat.zero_le _) rfl
    have nw : wholeB (s.take i) = false → milR (s.take i) (dsB s) = (0, 3) := fun g => by
      unfold milR
      rw [g]
      cases (dsB s).all isD <;> rfl
    refine rmil_s0 ?_
    unfold milV milE milP
    rw [hA, h5]
    simp only [rmil_t0, d0, Bool.true_and, ← h7, Int.toNat_natCast]
    have hbb : (b || !b) = true := by cases b <;> rfl
    rw [hbb, h8]
    simp only [cond_true, cond_false]
    cases b with
    | false =>
      have h6 := h6 rfl
      simp only [cond_true, cond_false, dle h2, Bool.and_self, show Int.toNat (0 : Int) = 0 from rfl, Nat.sub_zero, List.drop_zero, show decide ((0 : Int) ≤ (0 : Int)) = true from rfl, hok]
      cases hw : wholeB (s.take i) with
      | false => rw [nw hw]; rfl
      | true =>
        have := fin (by rw [h6]; exact Nat.zero_le _) hw
        rw [h6] at this ⊢
        exact Gr_of this
    | true =>
      have hi : i < s.length := by have := of_decide_eq_true h7.symm; omega
      have ht : (dsB s).length ≤ 1000000 := by rw [h4, List.length_drop]; omega
      obtain ⟨l1, l2⟩ := mlast ht
      have hd : List.take (s.length - (i + 1)) (List.drop (i + 1) s) = dsB s := by rw [h4]; exact List.take_of_length_le (by rw [List.length_drop]; exact Nat.le_refl _)
      simp only [cond_true, e1, d0, dle (show i + 1 ≤ s.length by omega), dle (Nat.le_refl s.length), Bool.and_self, Int.toNat_natCast, hd, l1, l2, dle h2, show Int.toNat (0 : Int) = 0 from rfl, Nat.sub_zero, List.drop_zero, show decide ((0 : Int) ≤ (0 : Int)) = true from rfl, hok]
      cases hb : badT (dsB s) with
      | true => rfl
      | false =>
        simp only [cond_false]
        cases hw : wholeB (s.take i) with
        | false => rw [nw hw]; rfl
        | true => exact Gr_of (fin (badT_no hb) hw)
  intro m
  induction m with
  | zero =>
    intro i h1 h2 h3
    rw [List.drop_eq_nil_of_le (show s.length ≤ i by omega)] at h3
    have h3 : fiB 46 s = i := h3
    have hC : dsC s = false := by unfold dsC; rw [dF (by omega)]
    exact key i false h2 h3 (by unfold dsB; rw [h3]) hC (fun _ => dsB_no hC) (dge (by omega)).symm rfl
  | succ m ih =>
    intro i h1 h2 h3
    have hi : i < s.length := by omega
    have e1 : w64 ((i : Int) + 1) = ((i + 1 : Nat) : Int) := by rw [w64_id (by omega) (by omega)]; omega
    have h3' := h3
    rw [drop_at hi, fiB] at h3
    cases hc : ((List.getD s i 0).toNat : Int) == 46 with
    | true =>
      rw [hc, cond_true] at h3
      have h3 : fiB 46 s = i := h3
      exact key i true h2 h3 (by unfold dsB; rw [h3]) (by unfold dsC; rw [dT (by omega)]) (fun h => by cases h) (dlt hi).symm (neF (eq_of_beq hc))
    | false =>
      rw [hc, cond_false] at h3
      have hn : (((List.getD s i 0).toNat : Int) != 46) = true := neT (fun e => by rw [eqT e] at hc; cases hc)
      refine rmil_s0 ?_
      simp only [rmil_t0, dlt hi, d0, Bool.and_self, Bool.true_or, cond_true, e1, Int.toNat_natCast, hn]
      exact Gr_of (ih (i + 1) (by omega) (by omega) (by omega))
theorem rmil_ok : FnOk E rmil_id rmil_W := rmil_ok_of fun s hk =>
  Gr_of (rmil_0 s (okL1_iff.1 hk) _ 0 rfl (Nat.zero_le _) (by rw [List.drop_zero, Nat.zero_add]))
end Go.Proofs.YtfoflgciceckoaaGreatDoor.Rf