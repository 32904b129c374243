/- Amounts: the program's and the reference's. -/
import Derived.Test.YtfoflgciceckoaaGreatDoorT6
namespace Go.Proofs.YtfoflgciceckoaaGreatDoor.Rf
open Go Go.RowKit Go.Sort Go.Proofs.YtfoflgciceckoaaGreatDoor.Mir
/-! ### Amounts -/
def uKb (s : List UInt8) : Bool := bif s == [107] then true else s == [107, 98]
def uMb (s : List UInt8) : Bool := bif s == [109] then true else s == [109, 98]
def uGb (s : List UInt8) : Bool := bif s == [103] then true else s == [103, 98]
def uBb (s : List UInt8) : Bool := bif s == [] then true else s == [98]
def zuV (s : List UInt8) : Int := bif uBb s then 0 else bif uKb s then 1 else bif uMb s then 2 else bif uGb s then 3 else 0
def zuB (s : List UInt8) : Bool := bif uBb s then true else bif uKb s then true else bif uMb s then true else uGb s
theorem zu_bd (s : List UInt8) : 0 ≤ zuV s ∧ zuV s ≤ 3 := by
  unfold zuV
  cases uBb s <;> cases uKb s <;> cases uMb s <;> cases uGb s <;> decide
noncomputable def zunit_W : FnW E := fn12 (E := E) .str .int .bool (fun _ => true) zuV zuB
def zunit_id : FuncId := 117
noncomputable def zunit_O : Oracle E := orac [] [] [] []
noncomputable def zunit_H : Hint E := Hint.mk [] [] [] [] []
noncomputable def zunit_t (_G : Nat → ASt E → Option (List (TV E))) (x0 : List UInt8) : Option (List (TV E)) :=
  bif ((decide ((0 : Int) ≤ (1 : Int)) && decide ((1 : Int) < (x0.length : Int))) || !((x0.length : Int) == (2 : Int))) then (bif ((decide ((0 : Int) ≤ (0 : Int)) && decide ((0 : Int) < (x0.length : Int))) || !(bif ((x0.length : Int) == (2 : Int)) then ((((List.getD x0 (Int.toNat (1 : Int)) 0).toNat : Nat) : Int) == (98 : Int)) else false)) then (bif (bif (bif ((x0.length : Int) == (2 : Int)) then ((((List.getD x0 (Int.toNat (1 : Int)) 0).toNat : Nat) : Int) == (98 : Int)) else false) then ((((List.getD x0 (Int.toNat (0 : Int)) 0).toNat : Nat) : Int) != (98 : Int)) else false) then (bif (decide ((0 : Int) ≤ (0 : Int)) && decide ((0 : Int) ≤ (1 : Int)) && decide ((1 : Int) ≤ (x0.length : Int))) then (bif ((List.take (Int.toNat (1 : Int) - Int.toNat (0 : Int)) (List.drop (Int.toNat (0 : Int)) x0)) == ([] : List UInt8)) then (bif ((List.take (Int.toNat (1 : Int) - Int.toNat (0 : Int)) (List.drop (Int.toNat (0 : Int)) x0)) == ([] : List UInt8)) then some [⟨.int, (0 : Int)⟩, ⟨.bool, true⟩] else (bif ((List.take (Int.toNat (1 : Int) - Int.toNat (0 : Int)) (List.drop (Int.toNat (0 : Int)) x0)) == ([107] : List UInt8)) then some [⟨.int, (1 : Int)⟩, ⟨.bool, true⟩] else (bif ((List.take (Int.toNat (1 : Int) - Int.toNat (0 : Int)) (List.drop (Int.toNat (0 : Int)) x0)) == ([109] : List UInt8)) then some [⟨.int, (2 : Int)⟩, ⟨.bool, true⟩] else (bif ((List.take (Int.toNat (1 : Int) - Int.toNat (0 : Int)) (List.drop (Int.toNat (0 : Int)) x0)) == ([103] : List UInt8)) then some [⟨.int, (3 : Int)⟩, ⟨.bool, true⟩] else some [⟨.int, (0 : Int)⟩, ⟨.bool, false⟩])))) else (bif ((List.take (Int.toNat (1 : Int) - Int.toNat (0 : Int)) (List.drop (Int.toNat (0 : Int)) x0)) == ([98] : List UInt8)) then some [⟨.int, (0 : Int)⟩, ⟨.bool, true⟩] else (bif ((List.take (Int.toNat (1 : Int) - Int.toNat (0 : Int)) (List.drop (Int.toNat (0 : Int)) x0)) == ([107] : List UInt8)) then some [⟨.int, (1 : Int)⟩, ⟨.bool, true⟩] else (bif ((List.take (Int.toNat (1 : Int) - Int.toNat (0 : Int)) (List.drop (Int.toNat (0 : Int)) x0)) == ([109] : List UInt8)) then some [⟨.int, (2 : Int)⟩, ⟨.bool, true⟩] else (bif ((List.take (Int.toNat (1 : Int) - Int.toNat (0 : Int)) (List.drop (Int.toNat (0 : Int)) x0)) == ([103] : List UInt8)) then some [⟨.int, (3 : Int)⟩, ⟨.bool, true⟩] else some [⟨.int, (0 : Int)⟩, ⟨.bool, false⟩]))))) else none) else (bif (x0 == ([] : List UInt8)) then (bif (x0 == ([] : List UInt8)) then some [⟨.int, (0 : Int)⟩, ⟨.bool, true⟩] else (bif (x0 == ([107] : List UInt8)) then some [⟨.int, (1 : Int)⟩, ⟨.bool, true⟩] else (bif (x0 == ([109] : List UInt8)) then some [⟨.int, (2 : Int)⟩, ⟨.bool, true⟩] else (bif (x0 == ([103] : List UInt8)) then some [⟨.int, (3 : Int)⟩, ⟨.bool, true⟩] else some [⟨.int, (0 : Int)⟩, ⟨.bool, false⟩])))) else (bif (x0 == ([98] : List UInt8)) then some [⟨.int, (0 : Int)⟩, ⟨.bool, true⟩] else (bif (x0 == ([107] : List UInt8)) then some [⟨.int, (1 : Int)⟩, ⟨.bool, true⟩] else (bif (x0 == ([109] : List UInt8)) then some [⟨.int, (2 : Int)⟩, ⟨.bool, true⟩] else (bif (x0 == ([103] : List UInt8)) then some [⟨.int, (3 : Int)⟩, ⟨.bool, true⟩] else some [⟨.int, (0 : Int)⟩, ⟨.bool, false⟩])))))) else none) else none
theorem zunit_e (G : Nat → ASt E → Option (List (TV E))) (x0 : List UInt8) : runE zunit_O zunit_H G Tryz.f117 [⟨.str, x0⟩] = zunit_t G x0 := by kernel_rfl
theorem zunit_f : Tryz.prog.funcs[117]? = some Tryz.f117 := by kernel_rfl
theorem zunit_n : (Tryz.f117.name == "runtime.NumGoroutine") = false := by kernel_rfl
theorem zunit_b : Tryz.f117.body.isNone = false := by kernel_rfl
theorem zunit_ex : ∃ fn, Tryz.prog.funcs[117]? = some fn ∧ (fn.name == "runtime.NumGoroutine") = false ∧ fn.body.isNone = false := ⟨Tryz.f117, zunit_f, zunit_n, zunit_b⟩
theorem zunit_hO : OracleOk E zunit_O := orac_ok .nil .nil .nil .nil
theorem zunit_ok_of (h : ∀ (x0 : List UInt8), zunit_t (Gr E Tryz.f117 [⟨.int, zuV x0⟩, ⟨.bool, zuB x0⟩]) x0 = some [⟨.int, zuV x0⟩, ⟨.bool, zuB x0⟩]) : FnOk E zunit_id zunit_W := fn12_ok zunit_hO mix zunit_f zunit_n zunit_b (fun x0 _ => (zunit_e _ x0).trans (h x0))
theorem zunit_ok : FnOk E zunit_id zunit_W := zunit_ok_of fun s => by
  have b1 : ∀ c : UInt8, ([c] == ([] : List UInt8)) = false := fun _ => rfl
  have b2 : ∀ c d : UInt8, ([c, d] == ([] : List UInt8)) = false := fun _ _ => rfl
  have f1 : ∀ (c x y : UInt8), ([c] == [x, y]) = false := fun c x y => by simp
  have f2 : ∀ (c d x : UInt8), ([c, d] == [x]) = false := fun c d x => by simp
  unfold zuV zuB uBb uKb uMb uGb
  match s with
  | [] => rfl
  | [c] =>
    simp only [zunit_t, List.length_singleton, show (((1 : Nat) : Int) == 2) = false from rfl, b1, f1, Bool.not_false, Bool.or_true, cond_true, cond_false]
    cases [c] == [98] <;> cases [c] == [107] <;> cases [c] == [109] <;> cases [c] == [103] <;> rfl
  | [c, d] =>
    have e1 : Int.toNat (1 : Int) = 1 := rfl
    have e0 : Int.toNat (0 : Int) = 0 := rfl
    have g1 : List.getD [c, d] 1 0 = d := rfl
    have g0 : List.getD [c, d] 0 0 = c := rfl
    have t1 : List.take (1 - 0) (List.drop 0 [c, d]) = [c] := rfl
    have l2 : (([c, d] : List UInt8).length : Int) = 2 := rfl
    simp only [zunit_t, l2, e1, e0, g1, g0, t1, b1, b2, f2, show ((2 : Int) == 2) = true from rfl, show decide ((0 : Int) ≤ 1) = true from rfl, show decide ((1 : Int) < 2) = true from rfl, show decide ((0 : Int) ≤ 0) = true from rfl, show decide ((0 : Int) < 2) = true from rfl, show decide ((1 : Int) ≤ 2) = true from rfl, Bool.and_self, Bool.true_or, cond_true, cond_false]
    have p2 : ∀ x : UInt8, ([c, d] == [x, 98]) = (([c] == [x]) && ((d.toNat : Int) == 98)) := fun x => by
      have : ((d.toNat : Int) == 98) = (d == 98) := by
        by_cases h : d = 98
        · subst h; rfl
        · rw [eqF (fun e => h (UInt8.toNat_inj.1 (show d.toNat = 98 by have e : (d.toNat : Int) = 98 := e; omega)))]
          simpa using h
      rw [this]
      simp [Bool.beq_eq_decide_eq]
    have p3 : ((c.toNat : Int) != 98) = !([c] == [98]) := by
      by_cases h : c = 98
      · subst h; rfl
      · rw [neT (fun e => h (UInt8.toNat_inj.1 (show c.toNat = 98 by have e : (c.toNat : Int) = 98 := e; omega)))]
        simp [h]
    rw [p2, p2, p2, p3]
    have dis : ∀ x y : UInt8, x ≠ y → ([c] == [x]) = true → ([c] == [y]) = false := fun x y hxy h => by
      have : c = x := by simpa using h
      subst this
      simpa using hxy
    cases ((d.toNat : Int) == 98) with
    | false => cases [c] == [107] <;> cases [c] == [109] <;> cases [c] == [103] <;> rfl
    | true =>
      cases h98 : [c] == [98] with
      | true =>
        rw [dis 98 107 (by decide) h98, dis 98 109 (by decide) h98, dis 98 103 (by decide) h98]
        rfl
      | false =>
        cases [c] == [107] <;> cases [c] == [109] <;> cases [c] == [103] <;> rfl
  | a :: b :: c :: t =>
    have f0 : ((a :: b :: c :: t) == ([] : List UInt8)) = false := rfl
    have f1 : ∀ x : UInt8, ((a :: b :: c :: t) == [x]) = false := fun x => by simp
    have f2 : ∀ x y : UInt8, ((a :: b :: c :: t) == [x, y]) = false := fun x y => by simp
    have hl : (((a :: b :: c :: t).length : Int) == 2) = false := eqF (by simp only [List.length_cons]; omega)
    simp only [zunit_t, hl, f0, f1, f2, Bool.not_false, Bool.or_true, cond_true, cond_false]
/-- How far the last digit reaches. -/
def lastD (s : List UInt8) : Nat → Nat
  | 0 => 0
  | n + 1 => bif isD (s.getD n 0) then n + 1 else lastD s n
def lsD (s : List UInt8) : Nat := lastD s s.length
theorem lastD_le (s : List UInt8) : ∀ n, lastD s n ≤ n
  | 0 => Nat.le_refl _
  | n + 1 => by
    unfold lastD
    have := lastD_le s n
    cases isD (s.getD n 0) with
    | true => exact Nat.le_refl _
    | false => rw [cond_false]; omega
theorem lsD_le (s : List UInt8) : lsD s ≤ s.length := lastD_le s _
def zpP (s : List UInt8) : Int × Int := bif !(zuB (s.drop (lsD s))) then (0, 3) else
  ((cntP (s.take (lsD s)) (1125899906842624 / 2 ^ (Int.toNat (10 * zuV (s.drop (lsD s)))))).1 * 2 ^ (Int.toNat (10 * zuV (s.drop (lsD s)))), (cntP (s.take (lsD s)) (1125899906842624 / 2 ^ (Int.toNat (10 * zuV (s.drop (lsD s)))))).2)
def zpV (s : List UInt8) : Int := (zpP s).1
def zpE (s : List UInt8) : Int := (zpP s).2
noncomputable def zparse_W : FnW E := fn12 (E := E) .str .int .api_Errno okL1 zpV zpE
def zparse_id : FuncId := 61
noncomputable def zparse_O : Oracle E := orac [(58, dcount_W), (117, zunit_W)] [] [] []
noncomputable def zparse_H : Hint E := Hint.mk [(0, [0, 4])] [] [] [] []
noncomputable def zparse_C0 (v0 : List UInt8) (v1 : Int) : ASt E := ASt.mk 53 [(0, .d (.str v0)), (4, .d (.int .i64 v1))] [] 0
noncomputable def zparse_t (G : Nat → ASt E → Option (List (TV E))) (x0 : List UInt8) : Option (List (TV E)) :=
  G 0 (zparse_C0 x0 (x0.length : Int))
theorem zparse_e (G : Nat → ASt E → Option (List (TV E))) (x0 : List UInt8) : runE zparse_O zparse_H G Tryz.f61 [⟨.str, x0⟩] = zparse_t G x0 := by kernel_rfl
noncomputable def zparse_t0 (G : Nat → ASt E → Option (List (TV E))) (v0 : List UInt8) (v1 : Int) : Option (List (TV E)) :=
  bif ((decide ((0 : Int) ≤ (w64 (v1 - (1 : Int)))) && decide ((w64 (v1 - (1 : Int))) < (v0.length : Int))) || !(decide ((0 : Int) < v1))) then (bif ((decide ((0 : Int) ≤ (w64 (v1 - (1 : Int)))) && decide ((w64 (v1 - (1 : Int))) < (v0.length : Int))) || !((decide ((0 : Int) < v1)) && (!(decide ((((List.getD v0 (Int.toNat (w64 (v1 - (1 : Int)))) 0).toNat : Nat) : Int) < (48 : Int)))))) then (bif (bif (decide ((0 : Int) < v1)) then (bif (decide ((((List.getD v0 (Int.toNat (w64 (v1 - (1 : Int)))) 0).toNat : Nat) : Int) < (48 : Int))) then true else (decide ((57 : Int) < (((List.getD v0 (Int.toNat (w64 (v1 - (1 : Int)))) 0).toNat : Nat) : Int)))) else false) then G 0 (zparse_C0 v0 (w64 (v1 - (1 : Int)))) else (bif (decide ((0 : Int) ≤ v1) && decide (v1 ≤ (v0.length : Int)) && decide ((v0.length : Int) ≤ (v0.length : Int))) then (bif (!(zuB (List.take (Int.toNat (v0.length : Int) - Int.toNat v1) (List.drop (Int.toNat v1) v0)))) then some [⟨.int, (0 : Int)⟩, ⟨.api_Errno, (3 : Int)⟩] else (bif (decide ((0 : Int) ≤ (0 : Int)) && decide ((0 : Int) ≤ v1) && decide (v1 ≤ (v0.length : Int))) then (bif (decide ((0 : Int) ≤ (w64 ((10 : Int) * (zuV (List.take (Int.toNat (v0.length : Int) - Int.toNat v1) (List.drop (Int.toNat v1) v0)))))) && decide ((w64 ((10 : Int) * (zuV (List.take (Int.toNat (v0.length : Int) - Int.toNat v1) (List.drop (Int.toNat v1) v0))))) ≤ (64 : Int))) then (bif (pokW (List.take (Int.toNat v1 - Int.toNat (0 : Int)) (List.drop (Int.toNat (0 : Int)) v0)) ((1125899906842624 : Int) / 2 ^ (Int.toNat (w64 ((10 : Int) * (zuV (List.take (Int.toNat (v0.length : Int) - Int.toNat v1) (List.drop (Int.toNat v1) v0)))))))) then (bif (decide ((0 : Int) ≤ (w64 ((10 : Int) * (zuV (List.take (Int.toNat (v0.length : Int) - Int.toNat v1) (List.drop (Int.toNat v1) v0)))))) && decide ((w64 ((10 : Int) * (zuV (List.take (Int.toNat (v0.length : Int) - Int.toNat v1) (List.drop (Int.toNat v1) v0))))) ≤ (64 : Int))) then some [⟨.int, (w64 ((pwholeV (List.take (Int.toNat v1 - Int.toNat (0 : Int)) (List.drop (Int.toNat (0 : Int)) v0)) ((1125899906842624 : Int) / 2 ^ (Int.toNat (w64 ((10 : Int) * (zuV (List.take (Int.toNat (v0.length : Int) - Int.toNat v1) (List.drop (Int.toNat v1) v0)))))))) * 2 ^ (Int.toNat (w64 ((10 : Int) * (zuV (List.take (Int.toNat (v0.length : Int) - Int.toNat v1) (List.drop (Int.toNat v1) v0))))))))⟩, ⟨.api_Errno, (pwholeE (List.take (Int.toNat v1 - Int.toNat (0 : Int)) (List.drop (Int.toNat (0 : Int)) v0)) ((1125899906842624 : Int) / 2 ^ (Int.toNat (w64 ((10 : Int) * (zuV (List.take (Int.toNat (v0.length : Int) - Int.toNat v1) (List.drop (Int.toNat v1) v0))))))))⟩] else none) else none) else none) else none)) else none)) else none) else none
theorem zparse_l0 (G : Nat → ASt E → Option (List (TV E))) (v0 : List UInt8) (v1 : Int) : runL zparse_O zparse_H G Tryz.f61 0 (zparse_C0 v0 v1) = zparse_t0 G v0 v1 := by kernel_rfl
theorem zparse_f : Tryz.prog.funcs[61]? = some Tryz.f61 := by kernel_rfl
theorem zparse_n : (Tryz.f61.name == "runtime.NumGoroutine") = false := by kernel_rfl
theorem zparse_b : Tryz.f61.body.isNone = false := by kernel_rfl
theorem zparse_ex : ∃ fn, Tryz.prog.funcs[61]? = some fn ∧ (fn.name == "runtime.NumGoroutine") = false ∧ fn.body.isNone = false := ⟨Tryz.f61, zparse_f, zparse_n, zparse_b⟩
theorem zparse_hO : OracleOk E zparse_O := orac_ok (.cons dcount_ok (.cons zunit_ok .nil)) .nil .nil .nil
theorem zparse_s0 {res : List (TV E)} {v0 : List UInt8} {v1 : Int} (h : zparse_t0 (Gr E Tryz.f61 res) v0 v1 = some res) : Ev E Tryz.f61 res 0 (zparse_C0 v0 v1) := Ev.step zparse_hO mix ((zparse_l0 _ v0 v1).trans h)
theorem zparse_ok_of (h : ∀ (x0 : List UInt8), okL1 x0 = true → zparse_t (Gr E Tryz.f61 [⟨.int, zpV x0⟩, ⟨.api_Errno, zpE x0⟩]) x0 = some [⟨.int, zpV x0⟩, ⟨.api_Errno, zpE x0⟩]) : FnOk E zparse_id zparse_W := fn12_ok zparse_hO mix zparse_f zparse_n zparse_b (fun x0 hk => (zparse_e _ x0).trans (h x0 hk))
/-- The powers that may be. -/
theorem p2_of {u : Int} (h0 : 0 ≤ u) (h1 : u ≤ 3) : (u = 0 ∧ (2 : Int) ^ (Int.toNat (10 * u)) = 1) ∨ (u = 1 ∧ (2 : Int) ^ (Int.toNat (10 * u)) = 1024) ∨ (u = 2 ∧ (2 : Int) ^ (Int.toNat (10 * u)) = 1048576) ∨ (u = 3 ∧ (2 : Int) ^ (Int.toNat (10 * u)) = 1073741824) := by
  have : u = 0 ∨ u = 1 ∨ u = 2 ∨ u = 3 := by omega
  rcases this with rfl | rfl | rfl | rfl <;> simp <;> decide
theorem zparse_0 (s : List UInt8) (hs : s.length ≤ 1000000) : ∀ (n : Nat), n ≤ s.length → lsD s = lastD s n → Ev E Tryz.f61 [⟨.int, zpV s⟩, ⟨.api_Errno, zpE s⟩] 0 (zparse_C0 s n) := by
  have fin : ∀ (n : Nat), n ≤ s.length → lsD s = n → ∀ (c : Bool), (bif (decide ((0 : Int) < (n : Int))) then (bif (decide ((((List.getD s (Int.toNat (w64 ((n : Int) - (1 : Int)))) 0).toNat : Nat) : Int) < (48 : Int))) then true else (decide ((57 : Int) < (((List.getD s (Int.toNat (w64 ((n : Int) - (1 : Int)))) 0).toNat : Nat) : Int)))) else false) = c → c = false → Ev E Tryz.f61 [⟨.int, zpV s⟩, ⟨.api_Errno, zpE s⟩] 0 (zparse_C0 s n) := by
    intro n h1 h2 c h3 h4
    subst h4
    refine zparse_s0 ?_
    have a1 : (decide ((0 : Int) ≤ w64 ((n : Int) - 1)) && decide (w64 ((n : Int) - 1) < (s.length : Int)) || !(decide ((0 : Int) < (n : Int)))) = true := by
      by_cases hn : (0 : Int) < (n : Int)
      · rw [w64_id (by omega) (by omega), dT (show (0 : Int) ≤ (n : Int) - 1 by omega), dT (show (n : Int) - 1 < (s.length : Int) by omega)]; rfl
      · rw [dF hn]; simp
    have a2 : ∀ x : Bool, (decide ((0 : Int) ≤ w64 ((n : Int) - 1)) && decide (w64 ((n : Int) - 1) < (s.length : Int)) || !(decide ((0 : Int) < (n : Int)) && x)) = true := fun x => by
      by_cases hn : (0 : Int) < (n : Int)
      · rw [w64_id (by omega) (by omega), dT (show (0 : Int) ≤ (n : Int) - 1 by omega), dT (show (n : Int) - 1 < (s.length : Int) by omega)]; rfl
      · rw [dF hn]; simp
    have ht : List.take (s.length - n) (List.drop n s) = s.drop n := List.take_of_length_le (by rw [List.length_drop]; exact Nat.le_refl _)
    obtain ⟨u0, u3⟩ := zu_bd (s.drop n)
    have hw : w64 (10 * zuV (s.drop n)) = 10 * zuV (s.drop n) := w64_id (by omega) (by omega)
    simp only [zparse_t0, a1, a2, h3, cond_true, cond_false, d0, dle h1, dle (Nat.le_refl s.length), Bool.and_self, Int.toNat_natCast, ht, hw, show Int.toNat (0 : Int) = 0 from rfl, Nat.sub_zero, List.drop_zero, show decide ((0 : Int) ≤ (0 : Int)) = true from rfl, dT (show (0 : Int) ≤ 10 * zuV (s.drop n) by omega), dT (show 10 * zuV (s.drop n) ≤ 64 by omega)]
    unfold zpV zpE zpP
    rw [h2]
    cases zuB (s.drop n) with
    | false => rfl
    | true =>
      simp only [Bool.not_true, cond_false]
      have hm : (0 : Int) ≤ 1125899906842624 / 2 ^ (Int.toNat (10 * zuV (s.drop n))) ∧ (1125899906842624 : Int) / 2 ^ (Int.toNat (10 * zuV (s.drop n))) ≤ 9007199254740992 := by
        rcases p2_of u0 u3 with ⟨_, h⟩ | ⟨_, h⟩ | ⟨_, h⟩ | ⟨_, h⟩ <;> rw [h] <;> decide
      have hp : pokW (s.take n) (1125899906842624 / 2 ^ (Int.toNat (10 * zuV (s.drop n)))) = true := pokW_iff.2 ⟨⟨by rw [List.length_take]; omega, hm.1⟩, hm.2⟩
      have hb := cnt_bd (s.take n) _ hm.1
      rw [hp, countV_eq _ hm.1, countE_eq _ hm.1, w64_id]
      · rfl
      · rcases p2_of u0 u3 with ⟨_, h⟩ | ⟨_, h⟩ | ⟨_, h⟩ | ⟨_, h⟩ <;> rw [h] at hb ⊢ <;> omega
      · rcases p2_of u0 u3 with ⟨_, h⟩ | ⟨_, h⟩ | ⟨_, h⟩ | ⟨_, h⟩ <;> rw [h] at hb ⊢ <;> omega
  intro n
  induction n with
  | zero => exact fun h1 h2 => fin 0 h1 h2 _ rfl rfl
  | succ n ih =>
    intro h1 h2
    have e1 : w64 (((n + 1 : Nat) : Int) - 1) = (n : Int) := by rw [w64_id (by omega) (by omega)]; omega
    unfold lastD at h2
    cases hd : isD (s.getD n 0) with
    | true =>
      rw [hd, cond_true] at h2
      refine fin (n + 1) h1 h2 _ rfl ?_
      rw [dT (show (0 : Int) < ((n + 1 : Nat) : Int) by omega), cond_true, e1, Int.toNat_natCast, bad1_eq, hd]
      rfl
    | false =>
      rw [hd, cond_false] at h2
      refine zparse_s0 ?_
      simp only [zparse_t0, e1, d0, dlt (show n < s.length by omega), dT (show (0 : Int) < ((n + 1 : Nat) : Int) by omega), Bool.and_self, Bool.true_or, cond_true, Int.toNat_natCast, bad1_eq, hd, Bool.not_false]
      exact Gr_of (ih (by omega) h2)
theorem zparse_ok : FnOk E zparse_id zparse_W := zparse_ok_of fun s hk => Gr_of (zparse_0 s (okL1_iff.1 hk) s.length (Nat.le_refl _) rfl)
theorem and1023 (n : Int) : bits .and .i64 n 1023 = n % 1024 := by
  have h3 : (BitVec.ofInt 64 1023).toNat = 2 ^ 10 - 1 := by decide
  have key : (BitVec.ofInt 64 n &&& BitVec.ofInt 64 1023).toNat = (n % ((2 ^ 64 : Nat) : Int)).toNat % 2 ^ 10 := by
    rw [BitVec.toNat_and, BitVec.toNat_ofInt, h3, Nat.and_two_pow_sub_one_eq_mod]
  show IntKind.i64.wrap ((BitVec.ofInt 64 n &&& BitVec.ofInt 64 1023).toNat : Nat) = n % 1024
  rw [key, IntKind.wrap_i64]
  omega
def okLv (n : Int) : Bool := decide (0 ≤ n) && decide (n ≤ 1125899906842624)
def zlV (n : Int) : Int := bif (bif n == 0 then true else n % 1024 != 0) then 0 else bif n % 1048576 != 0 then 1 else bif n % 1073741824 != 0 then 2 else 3
theorem zl_bd (n : Int) : 0 ≤ zlV n ∧ zlV n ≤ 3 := by
  unfold zlV
  cases (bif n == 0 then true else n % 1024 != 0) <;> cases n % 1048576 != 0 <;> cases n % 1073741824 != 0 <;> decide
noncomputable def zlevel_W : FnW E := fn1 (E := E) .int .int okLv zlV
def zlevel_id : FuncId := 118
noncomputable def zlevel_O : Oracle E := orac [] [] [] []
noncomputable def zlevel_H : Hint E := Hint.mk [(0, [0, 3])] [] [] [] []
noncomputable def zlevel_C0 (v0 v1 : Int) : ASt E := ASt.mk 20 [(0, .d (.int .i64 v0)), (3, .d (.int .i64 v1))] [] 0
noncomputable def zlevel_t (G : Nat → ASt E → Option (List (TV E))) (x0 : Int) : Option (List (TV E)) :=
  G 0 (zlevel_C0 x0 (0 : Int))
theorem zlevel_e (G : Nat → ASt E → Option (List (TV E))) (x0 : Int) : runE zlevel_O zlevel_H G Tryz.f118 [⟨.int, x0⟩] = zlevel_t G x0 := by kernel_rfl
noncomputable def zlevel_t0 (G : Nat → ASt E → Option (List (TV E))) (v0 v1 : Int) : Option (List (TV E)) :=
  bif (bif (bif (decide (v1 < (3 : Int))) then (v0 != (0 : Int)) else false) then ((bits .and .i64 v0 (1023 : Int)) == (0 : Int)) else false) then (bif (decide ((0 : Int) ≤ (10 : Int)) && decide ((10 : Int) ≤ (64 : Int))) then G 0 (zlevel_C0 (v0 / 2 ^ (Int.toNat (10 : Int))) (w64 (v1 + (1 : Int)))) else none) else some [⟨.int, v1⟩]
theorem zlevel_l0 (G : Nat → ASt E → Option (List (TV E))) (v0 v1 : Int) : runL zlevel_O zlevel_H G Tryz.f118 0 (zlevel_C0 v0 v1) = zlevel_t0 G v0 v1 := by kernel_rfl
theorem zlevel_f : Tryz.prog.funcs[118]? = some Tryz.f118 := by kernel_rfl
theorem zlevel_n : (Tryz.f118.name == "runtime.NumGoroutine") = false := by kernel_rfl
theorem zlevel_b : Tryz.f118.body.isNone = false := by kernel_rfl
theorem zlevel_ex : ∃ fn, Tryz.prog.funcs[118]? = some fn ∧ (fn.name == "runtime.NumGoroutine") = false ∧ fn.body.isNone = false := ⟨Tryz.f118, zlevel_f, zlevel_n, zlevel_b⟩
theorem zlevel_hO : OracleOk E zlevel_O := orac_ok .nil .nil .nil .nil
theorem zlevel_s0 {res : List (TV E)} {v0 v1 : Int} (h : zlevel_t0 (Gr E Tryz.f118 res) v0 v1 = some res) : Ev E Tryz.f118 res 0 (zlevel_C0 v0 v1) := Ev.step zlevel_hO mix ((zlevel_l0 _ v0 v1).trans h)
theorem zlevel_ok_of (h : ∀ (x0 : Int), okLv x0 = true → zlevel_t (Gr E Tryz.f118 [⟨.int, zlV x0⟩]) x0 = some [⟨.int, zlV x0⟩]) : FnOk E zlevel_id zlevel_W := fn1_ok zlevel_hO mix zlevel_f zlevel_n zlevel_b (fun x0 hk => (zlevel_e _ x0).trans (h x0 hk))
theorem zlevel_at (r n u : Int) (hu : 0 ≤ u ∧ u ≤ 3) (h : (3 ≤ u ∨ n = 0 ∨ n % 1024 ≠ 0) ∧ r = u ∨ (u < 3 ∧ n ≠ 0 ∧ n % 1024 = 0) ∧ Ev E Tryz.f118 [⟨.int, r⟩] 0 (zlevel_C0 (n / 1024) (u + 1))) : Ev E Tryz.f118 [⟨.int, r⟩] 0 (zlevel_C0 n u) := by
  refine zlevel_s0 ?_
  have e1 : w64 (u + 1) = u + 1 := w64_id (by omega) (by omega)
  have e2 : (2 : Int) ^ (Int.toNat 10) = 1024 := rfl
  simp only [zlevel_t0, and1023, e1, e2, show (decide ((0 : Int) ≤ 10) && decide ((10 : Int) ≤ 64)) = true from rfl, cond_true]
  rcases h with ⟨h, rfl⟩ | ⟨⟨h1, h2, h3⟩, h⟩
  · have : (bif (bif decide (r < 3) then n != 0 else false) then n % 1024 == 0 else false) = false := by
      rcases h with h | h | h
      · rw [dF (by omega)]; rfl
      · rw [neF h]; cases decide (r < 3) <;> rfl
      · rw [eqF h]; cases (bif decide (r < 3) then n != 0 else false) <;> rfl
    rw [this, cond_false]
  · rw [dT h1, neT h2, eqT h3]
    exact Gr_of h
theorem zlevel_ok : FnOk E zlevel_id zlevel_W := zlevel_ok_of fun n hk => by
  simp only [okLv, Bool.and_eq_true, decide_eq_true_eq] at hk
  obtain ⟨h0, h1⟩ := hk
  have key : Ev E Tryz.f118 [⟨.int, zlV n⟩] 0 (zlevel_C0 n 0) := by
    by_cases c0 : n = 0
    · refine zlevel_at _ _ _ (by decide) (.inl ⟨.inr (.inl c0), ?_⟩)
      unfold zlV; rw [eqT c0]; rfl
    by_cases c1 : n % 1024 = 0
    · refine zlevel_at _ _ _ (by decide) (.inr ⟨⟨by decide, c0, c1⟩, ?_⟩)
      by_cases c2 : n % 1048576 = 0
      · refine zlevel_at _ _ _ (by decide) (.inr ⟨⟨by decide, by omega, by omega⟩, ?_⟩)
        by_cases c3 : n % 1073741824 = 0
        · refine zlevel_at _ _ _ (by decide) (.inr ⟨⟨by decide, by omega, by omega⟩, ?_⟩)
          refine zlevel_at _ _ _ (by decide) (.inl ⟨.inl (by decide), ?_⟩)
          unfold zlV; rw [eqF c0, neF c1, neF c2, neF c3]; rfl
        · refine zlevel_at _ _ _ (by decide) (.inl ⟨.inr (.inr (by omega)), ?_⟩)
          unfold zlV; rw [eqF c0, neF c1, neF c2, neT c3]; rfl
      · refine zlevel_at _ _ _ (by decide) (.inl ⟨.inr (.inr (by omega)), ?_⟩)
        unfold zlV; rw [eqF c0, neF c1, neT c2]; rfl
    · refine zlevel_at _ _ _ (by decide) (.inl ⟨.inr (.inr c1), ?_⟩)
      unfold zlV; rw [eqF c0, neT c1]; rfl
  exact Gr_of key
def sfx (u : Int) : List UInt8 := bif u == 0 then [] else bif u == 1 then [107] else bif u == 2 then [109] else [103]
def ztV (n : Int) : List UInt8 := bif (bif decide (n < 0) then true else decide ((1125899906842624 : Int) < n)) then [] else textV (n / 2 ^ (Int.toNat (10 * zlV n))) ++ sfx (zlV n)
noncomputable def ztext_W : FnW E := fn1 (E := E) .int .str (fun _ => true) ztV
def ztext_id : FuncId := 63
noncomputable def ztext_O : Oracle E := orac [(53, dgtext_W), (118, zlevel_W)] [] [] []
noncomputable def ztext_H : Hint E := Hint.mk [] [] [] [] []
noncomputable def ztext_t (_G : Nat → ASt E → Option (List (TV E))) (x0 : Int) : Option (List (TV E)) :=
  bif (bif (decide (x0 < (0 : Int))) then true else (decide ((1125899906842624 : Int) < x0))) then some [⟨.str, ([] : List UInt8)⟩] else (bif (okLv x0) then (bif (decide ((0 : Int) ≤ (w64 ((10 : Int) * (zlV x0)))) && decide ((w64 ((10 : Int) * (zlV x0))) ≤ (64 : Int))) then (bif (okI (x0 / 2 ^ (Int.toNat (w64 ((10 : Int) * (zlV x0)))))) then (bif (decide ((0 : Int) ≤ (zlV x0)) && decide ((zlV x0) < (4 : Int))) then (bif (decide ((textV (x0 / 2 ^ (Int.toNat (w64 ((10 : Int) * (zlV x0)))))).length + (List.getD ([([] : List UInt8), ([107] : List UInt8), ([109] : List UInt8), ([103] : List UInt8)] : List (List UInt8)) (Int.toNat (zlV x0)) (dflt .str)).length ≤ maxStr)) then some [⟨.str, ((textV (x0 / 2 ^ (Int.toNat (w64 ((10 : Int) * (zlV x0)))))) ++ (List.getD ([([] : List UInt8), ([107] : List UInt8), ([109] : List UInt8), ([103] : List UInt8)] : List (List UInt8)) (Int.toNat (zlV x0)) (dflt .str)))⟩] else none) else none) else none) else none) else none)
theorem ztext_e (G : Nat → ASt E → Option (List (TV E))) (x0 : Int) : runE ztext_O ztext_H G Tryz.f63 [⟨.int, x0⟩] = ztext_t G x0 := by kernel_rfl
theorem ztext_f : Tryz.prog.funcs[63]? = some Tryz.f63 := by kernel_rfl
theorem ztext_n : (Tryz.f63.name == "runtime.NumGoroutine") = false := by kernel_rfl
theorem ztext_b : Tryz.f63.body.isNone = false := by kernel_rfl
theorem ztext_ex : ∃ fn, Tryz.prog.funcs[63]? = some fn ∧ (fn.name == "runtime.NumGoroutine") = false ∧ fn.body.isNone = false := ⟨Tryz.f63, ztext_f, ztext_n, ztext_b⟩
theorem ztext_hO : OracleOk E ztext_O := orac_ok (.cons dgtext_ok (.cons zlevel_ok .nil)) .nil .nil .nil
theorem ztext_ok_of (h : ∀ (x0 : Int), ztext_t (Gr E Tryz.f63 [⟨.str, ztV x0⟩]) x0 = some [⟨.str, ztV x0⟩]) : FnOk E ztext_id ztext_W := fn1_ok ztext_hO mix ztext_f ztext_n ztext_b (fun x0 _ => (ztext_e _ x0).trans (h x0))
theorem ztext_ok : FnOk E ztext_id ztext_W := ztext_ok_of fun n => by
  unfold ztV
  rw [ztext_t]
  cases hb : (bif decide (n < 0) then true else decide ((1125899906842624 : Int) < n)) with
  | true => rfl
  | false =>
    have h0 : 0 ≤ n ∧ n ≤ 1125899906842624 := by
      by_cases h : n < 0
      · rw [dT h] at hb; cases hb
      · rw [dF h, cond_false] at hb
        have := of_decide_eq_false hb
        omega
    obtain ⟨u0, u3⟩ := zl_bd n
    have hw : w64 (10 * zlV n) = 10 * zlV n := w64_id (by omega) (by omega)
    have hok : okLv n = true := by simp only [okLv, dT h0.1, dT h0.2, Bool.and_self]
    have hI : okI (n / 2 ^ (Int.toNat (10 * zlV n))) = true := decide_eq_true (by
      rcases p2_of u0 u3 with ⟨_, h⟩ | ⟨_, h⟩ | ⟨_, h⟩ | ⟨_, h⟩ <;> rw [h] <;> omega)
    have hl := textV_len (n / 2 ^ (Int.toNat (10 * zlV n)))
    have hx : List.getD ([[], [107], [109], [103]] : List (List UInt8)) (Int.toNat (zlV n)) (dflt .str) = sfx (zlV n) ∧ (sfx (zlV n)).length ≤ 1 := by
      rcases p2_of u0 u3 with ⟨h, _⟩ | ⟨h, _⟩ | ⟨h, _⟩ | ⟨h, _⟩ <;> rw [h] <;> exact ⟨rfl, by decide⟩
    simp only [cond_false, cond_true, hok, hw, hI, dT (show (0 : Int) ≤ 10 * zlV n by omega), dT (show 10 * zlV n ≤ 64 by omega), dT u0, dT (show zlV n < 4 by omega), Bool.and_self, hx.1]
    rw [msT (show (textV (n / 2 ^ (Int.toNat (10 * zlV n)))).length + (sfx (zlV n)).length ≤ 4611686018427387904 by omega)]
    rfl
/-! ### The reference's amounts (04) -/
def rlV (s : List UInt8) : Int := bif uBb s then 1 else bif uKb s then 1024 else bif uMb s then 1048576 else bif uGb s then 1073741824 else 0
noncomputable def rlong_W : FnW E := fn1 (E := E) .str .int (fun _ => true) rlV
def rlong_id : FuncId := 135
noncomputable def rlong_O : Oracle E := orac [] [] [] []
noncomputable def rlong_H : Hint E := Hint.mk [] [] [] [] []
noncomputable def rlong_t (_G : Nat → ASt E → Option (List (TV E))) (x0 : List UInt8) : Option (List (TV E)) :=
  bif (bif (x0 == ([] : List UInt8)) then true else (x0 == ([98] : List UInt8))) then some [⟨.int, (1 : Int)⟩] else (bif (bif (x0 == ([107] : List UInt8)) then true else (x0 == ([107, 98] : List UInt8))) then some [⟨.int, (1024 : Int)⟩] else (bif (bif (x0 == ([109] : List UInt8)) then true else (x0 == ([109, 98] : List UInt8))) then some [⟨.int, (1048576 : Int)⟩] else (bif (bif (x0 == ([103] : List UInt8)) then true else (x0 == ([103, 98] : List UInt8))) then some [⟨.int, (1073741824 : Int)⟩] else some [⟨.int, (0 : Int)⟩])))
theorem rlong_e (G : Nat → ASt E → Option (List (TV E))) (x0 : List UInt8) : runE rlong_O rlong_H G Tryz.f135 [⟨.str, x0⟩] = rlong_t G x0 := by kernel_rfl
theorem rlong_f : Tryz.prog.funcs[135]? = some Tryz.f135 := by kernel_rfl
theorem rlong_n : (Tryz.f135.name == "runtime.NumGoroutine") = false := by kernel_rfl
theorem rlong_b : Tryz.f135.body.isNone = false := by kernel_rfl
theorem rlong_ex : ∃ fn, Tryz.prog.funcs[135]? = some fn ∧ (fn.name == "runtime.NumGoroutine") = false ∧ fn.body.isNone = false := ⟨Tryz.f135, rlong_f, rlong_n, rlong_b⟩
theorem rlong_hO : OracleOk E rlong_O := orac_ok .nil .nil .nil .nil
theorem rlong_ok_of (h : ∀ (x0 : List UInt8), rlong_t (Gr E Tryz.f135 [⟨.int, rlV x0⟩]) x0 = some [⟨.int, rlV x0⟩]) : FnOk E rlong_id rlong_W := fn1_ok rlong_hO mix rlong_f rlong_n rlong_b (fun x0 _ => (rlong_e _ x0).trans (h x0))
theorem rlong_ok : FnOk E rlong_id rlong_W := rlong_ok_of fun s => by
  unfold rlV uBb uKb uMb uGb
  rw [rlong_t]
  cases (bif s == [] then true else s == [98]) <;> cases (bif s == [107] then true else s == [107, 98]) <;> cases (bif s == [109] then true else s == [109, 98]) <;> cases (bif s == [103] then true else s == [103, 98]) <;> rfl
/-- How far the first digits reach. -/
def pfD : List UInt8 → Nat
  | [] => 0
  | c :: t => bif isD c then pfD t + 1 else 0
theorem pfD_le : ∀ s : List UInt8, pfD s ≤ s.length
  | [] => Nat.le_refl _
  | c :: t => by
    unfold pfD
    have := pfD_le t
    cases isD c with
    | true => rw [cond_true, List.length_cons]; omega
    | false => exact Nat.zero_le _
def rzP (s : List UInt8) : Int × Int := bif (bif rlV (s.drop (pfD s)) == 0 then true else !(wholeB (s.take (pfD s)))) then (0, 3) else
  bif decide (Int.tdiv 1125899906842624 (rlV (s.drop (pfD s))) < rvalueV (s.take (pfD s))) then (0, 9) else (rvalueV (s.take (pfD s)) * rlV (s.drop (pfD s)), 0)
def rzV (s : List UInt8) : Int := (rzP s).1
def rzE (s : List UInt8) : Int := (rzP s).2
theorem rl_cs (s : List UInt8) : rlV s = 0 ∨ rlV s = 1 ∨ rlV s = 1024 ∨ rlV s = 1048576 ∨ rlV s = 1073741824 := by
  unfold rlV
  cases uBb s <;> cases uKb s <;> cases uMb s <;> cases uGb s <;> simp
noncomputable def rzparse_W : FnW E := fn12 (E := E) .str .int .api_Errno okL1 rzV rzE
def rzparse_id : FuncId := 84
noncomputable def rzparse_O : Oracle E := orac [(134, rvalue_W), (133, rwhole_W), (135, rlong_W)] [] [] []
noncomputable def rzparse_H : Hint E := Hint.mk [(0, [0, 4])] [] [] [] []
noncomputable def rzparse_C0 (v0 : List UInt8) (v1 : Int) : ASt E := ASt.mk 49 [(0, .d (.str v0)), (4, .d (.int .i64 v1))] [] 0
noncomputable def rzparse_t (G : Nat → ASt E → Option (List (TV E))) (x0 : List UInt8) : Option (List (TV E)) :=
  G 0 (rzparse_C0 x0 (0 : Int))
theorem rzparse_e (G : Nat → ASt E → Option (List (TV E))) (x0 : List UInt8) : runE rzparse_O rzparse_H G Tryz.f84 [⟨.str, x0⟩] = rzparse_t G x0 := by kernel_rfl
noncomputable def rzparse_t0 (G : Nat → ASt E → Option (List (TV E))) (v0 : List UInt8) (v1 : Int) : Option (List (TV E)) :=
  bif ((decide ((0 : Int) ≤ v1) && decide (v1 < (v0.length : Int))) || !(decide (v1 < (v0.length : Int)))) then (bif ((decide ((0 : Int) ≤ v1) && decide (v1 < (v0.length : Int))) || !(bif (decide (v1 < (v0.length : Int))) then (decide ((48 : Int) ≤ (((List.getD v0 (Int.toNat v1) 0).toNat : Nat) : Int))) else false)) then (bif (bif (bif (decide (v1 < (v0.length : Int))) then (decide ((48 : Int) ≤ (((List.getD v0 (Int.toNat v1) 0).toNat : Nat) : Int))) else false) then (decide ((((List.getD v0 (Int.toNat v1) 0).toNat : Nat) : Int) ≤ (57 : Int))) else false) then G 0 (rzparse_C0 v0 (w64 (v1 + (1 : Int)))) else (bif (decide ((0 : Int) ≤ v1) && decide (v1 ≤ (v0.length : Int)) && decide ((v0.length : Int) ≤ (v0.length : Int))) then (bif ((decide ((0 : Int) ≤ (0 : Int)) && decide ((0 : Int) ≤ v1) && decide (v1 ≤ (v0.length : Int))) || !(!((rlV (List.take (Int.toNat (v0.length : Int) - Int.toNat v1) (List.drop (Int.toNat v1) v0))) == (0 : Int)))) then (bif ((okL1 (List.take (Int.toNat v1 - Int.toNat (0 : Int)) (List.drop (Int.toNat (0 : Int)) v0))) || !(!((rlV (List.take (Int.toNat (v0.length : Int) - Int.toNat v1) (List.drop (Int.toNat v1) v0))) == (0 : Int)))) then (bif (bif ((rlV (List.take (Int.toNat (v0.length : Int) - Int.toNat v1) (List.drop (Int.toNat v1) v0))) == (0 : Int)) then true else (!(wholeB (List.take (Int.toNat v1 - Int.toNat (0 : Int)) (List.drop (Int.toNat (0 : Int)) v0))))) then some [⟨.int, (0 : Int)⟩, ⟨.api_Errno, (3 : Int)⟩] else (bif (decide ((0 : Int) ≤ (0 : Int)) && decide ((0 : Int) ≤ v1) && decide (v1 ≤ (v0.length : Int))) then (bif (okD (List.take (Int.toNat v1 - Int.toNat (0 : Int)) (List.drop (Int.toNat (0 : Int)) v0))) then (bif (!((rlV (List.take (Int.toNat (v0.length : Int) - Int.toNat v1) (List.drop (Int.toNat v1) v0))) == (0 : Int))) then (bif (decide ((w64 (Int.tdiv (1125899906842624 : Int) (rlV (List.take (Int.toNat (v0.length : Int) - Int.toNat v1) (List.drop (Int.toNat v1) v0))))) < (rvalueV (List.take (Int.toNat v1 - Int.toNat (0 : Int)) (List.drop (Int.toNat (0 : Int)) v0))))) then some [⟨.int, (0 : Int)⟩, ⟨.api_Errno, (9 : Int)⟩] else some [⟨.int, (w64 ((rvalueV (List.take (Int.toNat v1 - Int.toNat (0 : Int)) (List.drop (Int.toNat (0 : Int)) v0))) * (rlV (List.take (Int.toNat (v0.length : Int) - Int.toNat v1) (List.drop (Int.toNat v1) v0)))))⟩, ⟨.api_Errno, (0 : Int)⟩]) else none) else none) else none)) else none) else none) else none)) else none) else none
theorem rzparse_l0 (G : Nat → ASt E → Option (List (TV E))) (v0 : List UInt8) (v1 : Int) : runL rzparse_O rzparse_H G Tryz.f84 0 (rzparse_C0 v0 v1) = rzparse_t0 G v0 v1 := by kernel_rfl
theorem rzparse_f : Tryz.prog.funcs[84]? = some Tryz.f84 := by kernel_rfl
theorem rzparse_n : (Tryz.f84.name == "runtime.NumGoroutine") = false := by kernel_rfl
theorem rzparse_b : Tryz.f84.body.isNone = false := by kernel_rfl
theorem rzparse_ex : ∃ fn, Tryz.prog.funcs[84]? = some fn ∧ (fn.name == "runtime.NumGoroutine") = false ∧ fn.body.isNone = false := ⟨Tryz.f84, rzparse_f, rzparse_n, rzparse_b⟩
theorem rzparse_hO : OracleOk E rzparse_O := orac_ok (.cons rvalue_ok (.cons rwhole_ok (.cons rlong_ok .nil))) .nil .nil .nil
theorem rzparse_s0 {res : List (TV E)} {v0 : List UInt8} {v1 : Int} (h : rzparse_t0 (Gr E Tryz.f84 res) v0 v1 = some res) : Ev E Tryz.f84 res 0 (rzparse_C0 v0 v1) := Ev.step rzparse_hO mix ((rzparse_l0 _ v0 v1).trans h)
theorem rzparse_ok_of (h : ∀ (x0 : List UInt8), okL1 x0 = true → rzparse_t (Gr E Tryz.f84 [⟨.int, rzV x0⟩, ⟨.api_Errno, rzE x0⟩]) x0 = some [⟨.int, rzV x0⟩, ⟨.api_Errno, rzE x0⟩]) : FnOk E rzparse_id rzparse_W := fn12_ok rzparse_hO mix rzparse_f rzparse_n rzparse_b (fun x0 hk => (rzparse_e _ x0).trans (h x0 hk))
theorem isD_ge (c : UInt8) : (bif decide ((48 : Int) ≤ ((c.toNat : Nat) : Int)) then decide (((c.toNat : Nat) : Int) ≤ 57) else false) = isD c := by
  unfold isD
  by_cases h : 48 ≤ c.toNat
  · rw [dT (by omega), dT (show 48 ≤ c.toNat from h), cond_true, Bool.true_and]
    exact decide_eq_decide.2 (by omega)
  · rw [dF (by omega), dF (show ¬ 48 ≤ c.toNat from h)]; rfl
theorem rzparse_0 (s : List UInt8) (hs : s.length ≤ 1000000) : ∀ (m i : Nat), s.length - i = m → i ≤ s.length → (s.take i).all isD = true → pfD s = i + pfD (s.drop i) →
    Ev E Tryz.f84 [⟨.int, rzV s⟩, ⟨.api_Errno, rzE s⟩] 0 (rzparse_C0 s i) := by
  have fin : ∀ (i : Nat), i ≤ s.length → (s.take i).all isD = true → pfD s = i → (bif (bif decide ((i : Int) < (s.length : Int)) then decide ((48 : Int) ≤ (((List.getD s i 0).toNat : Nat) : Int)) else false) then decide ((((List.getD s i 0).toNat : Nat) : Int) ≤ 57) else false) = false → Ev E Tryz.f84 [⟨.int, rzV s⟩, ⟨.api_Errno, rzE s⟩] 0 (rzparse_C0 s i) := by
    intro i h1 ha h2 h3
    refine rzparse_s0 ?_
    have ht : List.take (s.length - i) (List.drop i s) = s.drop i := List.take_of_length_le (by rw [List.length_drop]; exact Nat.le_refl _)
    have hb : ∀ b : Bool, (decide ((i : Int) < (s.length : Int)) || !(bif decide ((i : Int) < (s.length : Int)) then b else false)) = true := fun b => by cases decide ((i : Int) < (s.length : Int)) <;> simp
    have hb0 : (decide ((i : Int) < (s.length : Int)) || !(decide ((i : Int) < (s.length : Int)))) = true := by cases decide ((i : Int) < (s.length : Int)) <;> rfl
    have hk1 : okL1 (s.take i) = true := okL1_iff.2 (by rw [List.length_take]; omega)
    have hk2 : okD (s.take i) = true := okD_iff.2 ⟨by rw [List.length_take]; omega, ha⟩
    simp only [rzparse_t0, d0, Bool.true_and, Int.toNat_natCast, hb, hb0, h3, cond_true, cond_false, dle h1, dle (Nat.le_refl s.length), Bool.and_self, ht, show Int.toNat (0 : Int) = 0 from rfl, Nat.sub_zero, List.drop_zero, show decide ((0 : Int) ≤ (0 : Int)) = true from rfl, hk1, hk2, Bool.true_or]
    unfold rzV rzE rzP
    rw [h2]
    cases hq : (bif rlV (s.drop i) == 0 then true else !(wholeB (s.take i))) with
    | true => rfl
    | false =>
      have hz : (rlV (s.drop i) == 0) = false := by
        cases h : rlV (s.drop i) == 0 with
        | true => rw [h] at hq; cases hq
        | false => rfl
      have hv := rvalueV_le (s.take i)
      rw [hz]
      simp only [Bool.not_false, cond_true, cond_false]
      have e1 : w64 (Int.tdiv 1125899906842624 (rlV (s.drop i))) = Int.tdiv 1125899906842624 (rlV (s.drop i)) := by
        refine w64_id ?_ ?_ <;> rcases rl_cs (s.drop i) with h | h | h | h | h <;> rw [h] <;> decide
      rw [e1]
      by_cases hd : Int.tdiv 1125899906842624 (rlV (s.drop i)) < rvalueV (s.take i)
      · rw [dT hd]; rfl
      · rw [dF hd]
        have e2 : w64 (rvalueV (s.take i) * rlV (s.drop i)) = rvalueV (s.take i) * rlV (s.drop i) := by
          refine w64_id ?_ ?_ <;> rcases rl_cs (s.drop i) with h | h | h | h | h <;> rw [h] at hd ⊢ <;> (try simp only [show Int.tdiv 1125899906842624 1 = 1125899906842624 from rfl, show Int.tdiv 1125899906842624 1024 = 1099511627776 from rfl, show Int.tdiv 1125899906842624 1048576 = 1073741824 from rfl, show Int.tdiv 1125899906842624 1073741824 = 1048576 from rfl] at hd) <;> omega
        rw [e2]
        rfl
  intro m
  induction m with
  | zero =>
    intro i h1 h2 h3 h4
    rw [List.drop_eq_nil_of_le (show s.length ≤ i by omega)] at h4
    exact fin i h2 h3 h4 (by rw [dge (by omega)]; rfl)
  | succ m ih =>
    intro i h1 h2 h3 h4
    have hi : i < s.length := by omega
    have e1 : w64 ((i : Int) + 1) = ((i + 1 : Nat) : Int) := by rw [w64_id (by omega) (by omega)]; omega
    rw [drop_at hi, pfD] at h4
    cases hd : isD (s.getD i 0) with
    | false =>
      rw [hd, cond_false] at h4
      exact fin i h2 h3 h4 (by rw [dlt hi, cond_true, isD_ge, hd])
    | true =>
      rw [hd, cond_true] at h4
      refine rzparse_s0 ?_
      simp only [rzparse_t0, d0, dlt hi, Bool.and_self, Bool.true_or, cond_true, Int.toNat_natCast, isD_ge, hd, e1]
      refine Gr_of (ih (i + 1) (by omega) (by omega) ?_ (by omega))
      rw [List.take_succ_eq_append_getElem hi, List.all_append, h3]
      have : s.getD i 0 = s[i] := by rw [List.getD, List.getElem?_eq_getElem hi]; rfl
      rw [this] at hd
      simp [hd]
theorem rzparse_ok : FnOk E rzparse_id rzparse_W := rzparse_ok_of fun s hk => Gr_of (rzparse_0 s (okL1_iff.1 hk) _ 0 rfl (Nat.zero_le _) rfl (by rw [List.drop_zero, Nat.zero_add]))
def rzuV (n : Int) : Int := bif (bif decide (n < 0) then true else decide ((1125899906842624 : Int) < n)) then 0 else bif zlV n == 0 then 1 else bif zlV n == 1 then 1024 else bif zlV n == 2 then 1048576 else 1073741824
noncomputable def rzunit_W : FnW E := fn1 (E := E) .int .int (fun _ => true) rzuV
def rzunit_id : FuncId := 136
noncomputable def rzunit_O : Oracle E := orac [] [] [] []
noncomputable def rzunit_H : Hint E := Hint.mk [] [] [] [] []
noncomputable def rzunit_t (_G : Nat → ASt E → Option (List (TV E))) (x0 : Int) : Option (List (TV E)) :=
  bif (bif (decide (x0 < (0 : Int))) then true else (decide ((1125899906842624 : Int) < x0))) then some [⟨.int, (0 : Int)⟩] else (bif ((!((1024 : Int) == (0 : Int))) || !(!(x0 == (0 : Int)))) then (bif (bif (x0 == (0 : Int)) then true else ((Int.tmod x0 (1024 : Int)) != (0 : Int))) then some [⟨.int, (1 : Int)⟩] else (bif (!((1048576 : Int) == (0 : Int))) then (bif ((Int.tmod x0 (1048576 : Int)) != (0 : Int)) then some [⟨.int, (1024 : Int)⟩] else (bif (!((1073741824 : Int) == (0 : Int))) then (bif ((Int.tmod x0 (1073741824 : Int)) != (0 : Int)) then some [⟨.int, (1048576 : Int)⟩] else some [⟨.int, (1073741824 : Int)⟩]) else none)) else none)) else none)
theorem rzunit_e (G : Nat → ASt E → Option (List (TV E))) (x0 : Int) : runE rzunit_O rzunit_H G Tryz.f136 [⟨.int, x0⟩] = rzunit_t G x0 := by kernel_rfl
theorem rzunit_f : Tryz.prog.funcs[136]? = some Tryz.f136 := by kernel_rfl
theorem rzunit_n : (Tryz.f136.name == "runtime.NumGoroutine") = false := by kernel_rfl
theorem rzunit_b : Tryz.f136.body.isNone = false := by kernel_rfl
theorem rzunit_ex : ∃ fn, Tryz.prog.funcs[136]? = some fn ∧ (fn.name == "runtime.NumGoroutine") = false ∧ fn.body.isNone = false := ⟨Tryz.f136, rzunit_f, rzunit_n, rzunit_b⟩
theorem rzunit_hO : OracleOk E rzunit_O := orac_ok .nil .nil .nil .nil
theorem rzunit_ok_of (h : ∀ (x0 : Int), rzunit_t (Gr E Tryz.f136 [⟨.int, rzuV x0⟩]) x0 = some [⟨.int, rzuV x0⟩]) : FnOk E rzunit_id rzunit_W := fn1_ok rzunit_hO mix rzunit_f rzunit_n rzunit_b (fun x0 _ => (rzunit_e _ x0).trans (h x0))
theorem rzunit_ok : FnOk E rzunit_id rzunit_W := rzunit_ok_of fun n => by
  unfold rzuV zlV
  rw [rzunit_t]
  cases hb : (bif decide (n < 0) then true else decide ((1125899906842624 : Int) < n)) with
  | true => rfl
  | false =>
    have h0 : 0 ≤ n := by
      by_cases h : n < 0
      · rw [dT h] at hb; cases hb
      · omega
    rw [Int.tmod_eq_emod_of_nonneg h0, Int.tmod_eq_emod_of_nonneg h0, Int.tmod_eq_emod_of_nonneg h0]
    cases (bif n == 0 then true else n % 1024 != 0) <;> cases n % 1048576 != 0 <;> cases n % 1073741824 != 0 <;> rfl
noncomputable def rztext_W : FnW E := fn1 (E := E) .int .str (fun _ => true) ztV
def rztext_id : FuncId := 86
noncomputable def rztext_O : Oracle E := orac [(106, rtext_W), (136, rzunit_W)] [] [] []
noncomputable def rztext_H : Hint E := Hint.mk [] [] [] [] []
noncomputable def rztext_t (_G : Nat → ASt E → Option (List (TV E))) (x0 : Int) : Option (List (TV E)) :=
  bif ((rzuV x0) == (0 : Int)) then some [⟨.str, ([] : List UInt8)⟩] else (bif (!((rzuV x0) == (0 : Int))) then (bif (okI (w64 (Int.tdiv x0 (rzuV x0)))) then (bif ((rzuV x0) == (1024 : Int)) then (bif (decide ((textV (w64 (Int.tdiv x0 (rzuV x0)))).length + ([107] : List UInt8).length ≤ maxStr)) then some [⟨.str, ((textV (w64 (Int.tdiv x0 (rzuV x0)))) ++ ([107] : List UInt8))⟩] else none) else (bif ((rzuV x0) == (1048576 : Int)) then (bif (decide ((textV (w64 (Int.tdiv x0 (rzuV x0)))).length + ([109] : List UInt8).length ≤ maxStr)) then some [⟨.str, ((textV (w64 (Int.tdiv x0 (rzuV x0)))) ++ ([109] : List UInt8))⟩] else none) else (bif ((rzuV x0) == (1073741824 : Int)) then (bif (decide ((textV (w64 (Int.tdiv x0 (rzuV x0)))).length + ([103] : List UInt8).length ≤ maxStr)) then some [⟨.str, ((textV (w64 (Int.tdiv x0 (rzuV x0)))) ++ ([103] : List UInt8))⟩] else none) else some [⟨.str, (textV (w64 (Int.tdiv x0 (rzuV x0))))⟩]))) else none) else none)
theorem rztext_e (G : Nat → ASt E → Option (List (TV E))) (x0 : Int) : runE rztext_O rztext_H G Tryz.f86 [⟨.int, x0⟩] = rztext_t G x0 := by kernel_rfl
theorem rztext_f : Tryz.prog.funcs[86]? = some Tryz.f86 := by kernel_rfl
theorem rztext_n : (Tryz.f86.name == "runtime.NumGoroutine") = false := by kernel_rfl
theorem rztext_b : Tryz.f86.body.isNone = false := by kernel_rfl
theorem rztext_ex : ∃ fn, Tryz.prog.funcs[86]? = some fn ∧ (fn.name == "runtime.NumGoroutine") = false ∧ fn.body.isNone = false := ⟨Tryz.f86, rztext_f, rztext_n, rztext_b⟩
theorem rztext_hO : OracleOk E rztext_O := orac_ok (.cons rtext_ok (.cons rzunit_ok .nil)) .nil .nil .nil
theorem rztext_ok_of (h : ∀ (x0 : Int), rztext_t (Gr E Tryz.f86 [⟨.str, ztV x0⟩]) x0 = some [⟨.str, ztV x0⟩]) : FnOk E rztext_id rztext_W := fn1_ok rztext_hO mix rztext_f rztext_n rztext_b (fun x0 _ => (rztext_e _ x0).trans (h x0))
theorem rztext_ok : FnOk E rztext_id rztext_W := rztext_ok_of fun n => by
  unfold ztV
  rw [rztext_t]
  unfold rzuV
  cases hb : (bif decide (n < 0) then true else decide ((1125899906842624 : Int) < n)) with
  | true => rfl
  | false =>
    have h0 : 0 ≤ n ∧ n ≤ 1125899906842624 := by
      by_cases h : n < 0
      · rw [dT h] at hb; cases hb
      · rw [dF h, cond_false] at hb
        have := of_decide_eq_false hb
        omega
    have hI : ∀ x : Int, 0 ≤ x → x ≤ 1125899906842624 → okI x = true ∧ w64 x = x := fun x h1 h2 => ⟨decide_eq_true (by omega), w64_id (by omega) (by omega)⟩
    have hd : ∀ y : Int, Int.tdiv n y = n / y := fun y => Int.tdiv_eq_ediv_of_nonneg h0.1
    have hm : ∀ (x : Int) (c : UInt8), decide ((textV x).length + [c].length ≤ maxStr) = true := fun x c => msT (by have := textV_len x; rw [List.length_singleton]; omega)
    obtain ⟨u0, u3⟩ := zl_bd n
    simp only [cond_false, hd]
    rcases p2_of u0 u3 with ⟨h, h2⟩ | ⟨h, h2⟩ | ⟨h, h2⟩ | ⟨h, h2⟩
    · rw [h2, h]
      obtain ⟨q1, q2⟩ := hI (n / 1) (by omega) (by omega)
      simp only [show ((0 : Int) == 0) = true from rfl, cond_true, show ((1 : Int) == 0) = false from rfl, show ((1 : Int) == 1024) = false from rfl, show ((1 : Int) == 1048576) = false from rfl, show ((1 : Int) == 1073741824) = false from rfl, cond_false, Bool.not_false, q1, q2]
      rw [show sfx 0 = [] from rfl, List.append_nil]
    · rw [h2, h]
      obtain ⟨q1, q2⟩ := hI (n / 1024) (by omega) (by omega)
      simp only [show ((1 : Int) == 0) = false from rfl, show ((1 : Int) == 1) = true from rfl, cond_true, show ((1024 : Int) == 0) = false from rfl, show ((1024 : Int) == 1024) = true from rfl, cond_false, Bool.not_false, q1, q2, hm]
      rfl
    · rw [h2, h]
      obtain ⟨q1, q2⟩ := hI (n / 1048576) (by omega) (by omega)
      simp only [show ((2 : Int) == 0) = false from rfl, show ((2 : Int) == 1) = false from rfl, show ((2 : Int) == 2) = true from rfl, cond_true, show ((1048576 : Int) == 0) = false from rfl, show ((1048576 : Int) == 1024) = false from rfl, show ((1048576 : Int) == 1048576) = true from rfl, cond_false, Bool.not_false, q1, q2, hm]
      rfl
    · rw [h2, h]
      obtain ⟨q1, q2⟩ := hI (n / 1073741824) (by omega) (by omega)
      simp only [show ((3 : Int) == 0) = false from rfl, show ((3 : Int) == 1) = false from rfl, show ((3 : Int) == 2) = false from rfl, cond_true, show ((1073741824 : Int) == 0) = false from rfl, show ((1073741824 : Int) == 1024) = false from rfl, show ((1073741824 : Int) == 1048576) = false from rfl, show ((1073741824 : Int) == 1073741824) = true from rfl, cond_false, Bool.not_false, q1, q2, hm]
      rfl
/-! Both are one; a form reads back -/
theorem rl_eq (s : List UInt8) : (rlV s == 0) = !(zuB s) ∧ (zuB s = true → rlV s = 2 ^ (Int.toNat (10 * zuV s))) := by
  unfold rlV zuB zuV
  cases uBb s <;> cases uKb s <;> cases uMb s <;> cases uGb s <;> refine ⟨rfl, fun h => ?_⟩ <;> first | (cases h; done) | rfl
theorem zu_noD {s : List UInt8} (h : zuB s = true) : ∀ c ∈ s, isD c = false := by
  have : s = [] ∨ s = [98] ∨ s = [107] ∨ s = [107, 98] ∨ s = [109] ∨ s = [109, 98] ∨ s = [103] ∨ s = [103, 98] := by
    unfold zuB uBb uKb uMb uGb at h
    simp only [Bool.cond_eq_ite] at h
    by_cases a1 : s = []
    · exact .inl a1
    by_cases a2 : s = [98]
    · exact .inr (.inl a2)
    by_cases a3 : s = [107]
    · exact .inr (.inr (.inl a3))
    by_cases a4 : s = [107, 98]
    · exact .inr (.inr (.inr (.inl a4)))
    by_cases a5 : s = [109]
    · exact .inr (.inr (.inr (.inr (.inl a5))))
    by_cases a6 : s = [109, 98]
    · exact .inr (.inr (.inr (.inr (.inr (.inl a6)))))
    by_cases a7 : s = [103]
    · exact .inr (.inr (.inr (.inr (.inr (.inr (.inl a7))))))
    by_cases a8 : s = [103, 98]
    · exact .inr (.inr (.inr (.inr (.inr (.inr (.inr a8))))))
    simp [a1, a2, a3, a4, a5, a6, a7, a8] at h
  rcases this with rfl | rfl | rfl | rfl | rfl | rfl | rfl | rfl <;> decide
theorem pfD_all : ∀ s : List UInt8, (s.take (pfD s)).all isD = true
  | [] => rfl
  | c :: t => by
    unfold pfD
    cases h : isD c with
    | false => rfl
    | true => rw [cond_true, List.take_succ_cons, List.all_cons, h, pfD_all t]; rfl
theorem pfD_app : ∀ (s t : List UInt8), s.all isD = true → (∀ c ∈ t, isD c = false) → pfD (s ++ t) = s.length
  | [], [], _, _ => rfl
  | [], c :: t, _, h => by
    show pfD (c :: t) = 0
    rw [pfD, h c List.mem_cons_self]; rfl
  | c :: s, t, h, h2 => by
    rw [List.all_cons, Bool.and_eq_true] at h
    show pfD (c :: (s ++ t)) = _
    rw [pfD, h.1, cond_true, pfD_app s t h.2 h2, List.length_cons]
theorem lastD_at (s : List UInt8) : ∀ n, lastD s n = 0 ∨ ∃ k, lastD s n = k + 1 ∧ k < n ∧ isD (s.getD k 0) = true
  | 0 => .inl rfl
  | n + 1 => by
    unfold lastD
    cases h : isD (s.getD n 0) with
    | true => exact .inr ⟨n, rfl, Nat.lt_succ_self _, h⟩
    | false =>
      rcases lastD_at s n with h1 | ⟨k, h1, h2, h3⟩
      · exact .inl h1
      · exact .inr ⟨k, h1, by omega, h3⟩
theorem lastD_no (s : List UInt8) : ∀ n, n ≤ s.length → ∀ c ∈ (s.take n).drop (lastD s n), isD c = false
  | 0, _, c, h => by simp [lastD] at h
  | n + 1, hn, c, h => by
    unfold lastD at h
    cases hd : isD (s.getD n 0) with
    | true =>
      rw [hd, cond_true, List.drop_eq_nil_of_le (by rw [List.length_take]; omega)] at h
      cases h
    | false =>
      rw [hd, cond_false, List.take_succ_eq_append_getElem (by omega), List.drop_append_of_le_length (by rw [List.length_take]; have := lastD_le s n; omega)] at h
      rcases List.mem_append.1 h with h | h
      · exact lastD_no s n (by omega) c h
      · have : c = s[n] := List.mem_singleton.1 h
        rw [this, ← hd, List.getD, List.getElem?_eq_getElem (show n < s.length by omega)]; rfl
theorem lsD_no (s : List UInt8) : ∀ c ∈ s.drop (lsD s), isD c = false := fun c h => lastD_no s s.length (Nat.le_refl _) c (by rw [List.take_of_length_le (Nat.le_refl _)]; exact h)
theorem lsD_app {s t : List UInt8} (h : s.all isD = true) (h2 : ∀ c ∈ t, isD c = false) : lsD (s ++ t) = s.length := by
  have h3 := lsD_no (s ++ t)
  have h4 := lsD_le (s ++ t)
  rw [List.length_append] at h4
  rcases Nat.lt_trichotomy (lsD (s ++ t)) s.length with hl | hl | hl
  · exfalso
    have hm : s[lsD (s ++ t)] ∈ (s ++ t).drop (lsD (s ++ t)) := by
      rw [List.drop_append_of_le_length (by omega), List.drop_eq_getElem_cons hl, List.cons_append]
      exact List.mem_cons_self
    have q1 := h3 _ hm
    have q2 := List.all_eq_true.1 h _ (List.getElem_mem hl)
    rw [q1] at q2; cases q2
  · exact hl
  · exfalso
    rcases lastD_at (s ++ t) (s ++ t).length with h5 | ⟨k, h5, h6, h7⟩
    · have : lsD (s ++ t) = 0 := h5
      omega
    · have h5 : lsD (s ++ t) = k + 1 := h5
      have hk : k - s.length < t.length := by rw [List.length_append] at h6; omega
      have hm : (s ++ t).getD k 0 = t[k - s.length] := by
        rw [List.getD, List.getElem?_append_right (by omega), List.getElem?_eq_getElem hk]; rfl
      rw [hm, h2 _ (List.getElem_mem hk)] at h7
      cases h7
theorem zp_eq (s : List UInt8) : zpP s = rzP s := by
  have hno := lsD_no s
  cases ha : (s.take (lsD s)).all isD with
  | true =>
    have hp : pfD s = lsD s := by
      have := pfD_app (s.take (lsD s)) (s.drop (lsD s)) ha hno
      rw [List.take_append_drop] at this
      rw [this, List.length_take]
      exact Nat.min_eq_left (lsD_le s)
    unfold zpP rzP
    rw [hp]
    obtain ⟨q1, q2⟩ := rl_eq (s.drop (lsD s))
    rw [q1]
    cases hz : zuB (s.drop (lsD s)) with
    | false => rfl
    | true =>
      simp only [Bool.not_true, cond_false]
      rw [q2 hz]
      obtain ⟨u0, u3⟩ := zu_bd (s.drop (lsD s))
      have hv : rvalueV (s.take (lsD s)) = satV (valN (s.take (lsD s)) 0) := rfl
      unfold cntP
      cases hw : wholeB (s.take (lsD s)) with
      | false => simp
      | true =>
        simp only [Bool.not_true, cond_false]
        rw [hv]
        have key : ∀ P : Int, (P = 1 ∨ P = 1024 ∨ P = 1048576 ∨ P = 1073741824) → ((overP (1125899906842624 / P) (valN (s.take (lsD s)) 0)).1 * P, (overP (1125899906842624 / P) (valN (s.take (lsD s)) 0)).2) = bif decide (Int.tdiv 1125899906842624 P < satV (valN (s.take (lsD s)) 0)) then ((0, 9) : Int × Int) else (satV (valN (s.take (lsD s)) 0) * P, 0) := by
          intro P hP
          rw [Int.tdiv_eq_ediv_of_nonneg (by decide)]
          have hb : 1125899906842624 / P ≤ 1125899906842624 := by rcases hP with h | h | h | h <;> rw [h] <;> decide
          by_cases hx : 1125899906842624 / P < (valN (s.take (lsD s)) 0 : Int)
          · rw [overP_lt hx]
            have : 1125899906842624 / P < satV (valN (s.take (lsD s)) 0) := by
              by_cases h7 : valN (s.take (lsD s)) 0 < 72057594037927936
              · rw [satV_lt h7]; exact hx
              · rw [satV_ge h7]; omega
            rw [dT this]
            simp
          · rw [overP_ge hx, satV_lt (by omega), dF hx]
            rfl
        exact key _ (by rcases p2_of u0 u3 with ⟨_, h⟩ | ⟨_, h⟩ | ⟨_, h⟩ | ⟨_, h⟩ <;> rw [h] <;> simp)
  | false =>
    have hw : wholeB (s.take (lsD s)) = false := by unfold wholeB; rw [ha, Bool.and_false]
    have hz : zpP s = (0, 3) := by
      unfold zpP cntP
      rw [hw]
      cases zuB (s.drop (lsD s)) <;> simp
    rw [hz]
    have hl : pfD s < lsD s := by
      rcases Nat.lt_or_ge (pfD s) (lsD s) with h | h
      · exact h
      · exfalso
        have := pfD_all s
        rw [← List.take_append_drop (lsD s) s, List.take_append_drop] at this
        have h2 : (s.take (lsD s)).all isD = true := List.all_eq_true.2 fun c hc => List.all_eq_true.1 this c (by
          have : s.take (lsD s) = (s.take (pfD s)).take (lsD s) := by rw [List.take_take, Nat.min_eq_left h]
          rw [this] at hc
          exact List.mem_of_mem_take hc)
        rw [h2] at ha; cases ha
    have hb : zuB (s.drop (pfD s)) = false := by
      cases hb : zuB (s.drop (pfD s)) with
      | false => rfl
      | true =>
        exfalso
        have h1 := zu_noD hb
        rcases lastD_at s s.length with h5 | ⟨k, h5, h6, h7⟩
        · have : lsD s = 0 := h5
          omega
        · have h5 : lsD s = k + 1 := h5
          have hm : s.getD k 0 ∈ s.drop (pfD s) := by
            have hk : k - pfD s < (s.drop (pfD s)).length := by rw [List.length_drop]; omega
            have : s.getD k 0 = (s.drop (pfD s))[k - pfD s] := by
              rw [List.getElem_drop, List.getD]
              rw [List.getElem?_eq_getElem h6]
              simp [show pfD s + (k - pfD s) = k by omega]
            rw [this]
            exact List.getElem_mem hk
          rw [h1 _ hm] at h7
          cases h7
    unfold rzP
    rw [(rl_eq (s.drop (pfD s))).1, hb]
    rfl
theorem zpV_eq (s : List UInt8) : zpV s = rzV s := congrArg Prod.fst (zp_eq s)
theorem zpE_eq (s : List UInt8) : zpE s = rzE s := congrArg Prod.snd (zp_eq s)
theorem zl_div {n : Int} (h0 : 0 ≤ n) : n / 2 ^ (Int.toNat (10 * zlV n)) * 2 ^ (Int.toNat (10 * zlV n)) = n := by
  have hc : (zlV n = 0 ∨ (zlV n = 1 ∧ n % 1024 = 0) ∨ (zlV n = 2 ∧ n % 1048576 = 0) ∨ (zlV n = 3 ∧ n % 1073741824 = 0)) := by
    unfold zlV
    by_cases c0 : n = 0
    · rw [eqT c0]; exact .inl rfl
    rw [eqF c0, cond_false]
    by_cases c1 : n % 1024 = 0
    · rw [neF c1, cond_false]
      by_cases c2 : n % 1048576 = 0
      · rw [neF c2, cond_false]
        by_cases c3 : n % 1073741824 = 0
        · rw [neF c3, cond_false]; exact .inr (.inr (.inr ⟨rfl, c3⟩))
        · rw [neT c3, cond_true]; exact .inr (.inr (.inl ⟨rfl, c2⟩))
      · rw [neT c2, cond_true]; exact .inr (.inl ⟨rfl, c1⟩)
    · rw [neT c1]; exact .inl rfl
  rcases hc with h | ⟨h, h2⟩ | ⟨h, h2⟩ | ⟨h, h2⟩ <;> rw [h]
  · rw [show (2 : Int) ^ (Int.toNat (10 * 0)) = 1 from rfl]; omega
  · rw [show (2 : Int) ^ (Int.toNat (10 * 1)) = 1024 from rfl]; omega
  · rw [show (2 : Int) ^ (Int.toNat (10 * 2)) = 1048576 from rfl]; omega
  · rw [show (2 : Int) ^ (Int.toNat (10 * 3)) = 1073741824 from rfl]; omega
theorem sfx_ok {u : Int} (h0 : 0 ≤ u) (h1 : u ≤ 3) : zuB (sfx u) = true ∧ zuV (sfx u) = u := by
  have : u = 0 ∨ u = 1 ∨ u = 2 ∨ u = 3 := by omega
  rcases this with rfl | rfl | rfl | rfl <;> decide
theorem zp_text {n : Int} (h0 : 0 ≤ n) (h1 : n ≤ 1125899906842624) : zpP (ztV n) = (n, 0) := by
  obtain ⟨u0, u3⟩ := zl_bd n
  obtain ⟨s1, s2⟩ := sfx_ok u0 u3
  have hd : 0 ≤ n / 2 ^ (Int.toNat (10 * zlV n)) ∧ n / 2 ^ (Int.toNat (10 * zlV n)) ≤ 1125899906842624 / 2 ^ (Int.toNat (10 * zlV n)) ∧ n / 2 ^ (Int.toNat (10 * zlV n)) < 9223372036854775808 := by
    rcases p2_of u0 u3 with ⟨_, h⟩ | ⟨_, h⟩ | ⟨_, h⟩ | ⟨_, h⟩ <;> rw [h] <;> omega
  obtain ⟨q1, q2, q3⟩ := text_whole hd.1 hd.2.2
  have e : ztV n = textV (n / 2 ^ (Int.toNat (10 * zlV n))) ++ sfx (zlV n) := by
    unfold ztV
    rw [dF (by omega), dF (by omega)]; rfl
  unfold zpP
  rw [e, lsD_app q3 (zu_noD s1), List.drop_left, List.take_left, s1, s2, Bool.not_true, cond_false, text_cnt hd.1 hd.2.1 hd.2.2, zl_div h0]
end Go.Proofs.YtfoflgciceckoaaGreatDoor.Rf