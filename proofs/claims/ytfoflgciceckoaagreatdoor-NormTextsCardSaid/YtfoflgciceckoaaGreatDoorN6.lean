/- strings.Cut. -/
import Derived.Test.YtfoflgciceckoaaGreatDoorN3
import Derived.Test.YtfoflgciceckoaaGreatDoorMirW
namespace Go.Proofs.YtfoflgciceckoaaGreatDoor.Rf
open Go Go.RowKit Go.Sort Go.Proofs.YtfoflgciceckoaaGreatDoor.Mir
/-! ### strings.Cut at a separator of one byte -/
theorem fn2_kit {f : FuncId} {a b t : E.Ty} {ok : E.Den a → E.Den b → Bool} {F : E.Den a → E.Den b → E.Den t} (ex : ∃ fn, Tryz.prog.funcs[f]? = some fn ∧ (fn.name == "runtime.NumGoroutine") = false ∧ fn.body.isNone = false) (h : ∀ x y, ok x y = true → CallsOk E f [⟨a, x⟩, ⟨b, y⟩] [⟨t, F x y⟩]) : FnOk E f (fn2 a b t ok F) :=
  ⟨ex, fun args r hr => by
    unfold fn2 at hr
    split at hr
    · split at hr
      · rename_i x hx
        split at hr
        · rename_i y hy
          injection hr with hr
          injection hr with h1 h2
          subst h2
          rw [castV_eq hx, castV_eq hy]
          exact h _ _ h1
        · cases hr
      · cases hr
    · cases hr⟩
def okIx (s p : List UInt8) : Bool := decide (s.length ≤ 1000000) && decide (p.length = 1)
def ixV (s p : List UInt8) : Int := Lib.indexByte s (p.headD 0)
noncomputable def sindex_W : FnW E := fn2 (E := E) .str .str .int okIx ixV
def sindex_id : FuncId := 152
theorem sindex_ok : FnOk E sindex_id sindex_W := fn2_kit ⟨Tryz.f152, by kernel_rfl, by kernel_rfl, by kernel_rfl⟩ fun s p hk => by
  simp only [okIx, Bool.and_eq_true, decide_eq_true_eq] at hk
  obtain ⟨c, rfl⟩ : ∃ c, p = [c] := by
    match p, hk.2 with
    | [c], _ => exact ⟨c, rfl⟩
  intro w ro vals hargs hrolt
  match vals, hargs with
  | [u, v], ⟨h1, h2, _⟩ =>
    have e1 : u = .string ⟨s.toArray⟩ := by
      rcases h1 with ⟨ha, _⟩ | ⟨_, d, hd, hr⟩
      · cases ha
      · have hd : ([.str s] : List (DVal E.Den)) = [d] := hd
        injection hd with hd _
        subst hd
        cases hr; rfl
    have e2 : v = .string ⟨[c].toArray⟩ := by
      rcases h2 with ⟨ha, _⟩ | ⟨_, d, hd, hr⟩
      · cases ha
      · have hd : ([.str [c]] : List (DVal E.Den)) = [d] := hd
        injection hd with hd _
        subst hd
        cases hr; rfl
    subst e1; subst e2
    refine (Tryz.stringslite_Index_one ⟨s.toArray⟩ c w).mono fun e w' he => ?_
    obtain ⟨he, rfl⟩ := he
    refine ⟨_, he, Below.refl _ _, .inr ⟨rfl, .int .i64 (ixV s [c]), rfl, ?_⟩⟩
    exact .int .i64 (Lib.indexByte s c)
theorem ix_ge (s : List UInt8) (c : UInt8) : Lib.indexByte s c < 0 ∨ ∃ i : Nat, Lib.indexByte s c = i ∧ i < s.length := by
  induction s with
  | nil => exact .inl (show (-1 : Int) < 0 by decide)
  | cons a t ih =>
    unfold Lib.indexByte
    split
    · exact .inr ⟨0, rfl, by simp⟩
    · rcases ih with h | ⟨i, h1, h2⟩
      · left
        split
        · decide
        · have := Lib.indexByte_ge t c
          rename_i hne
          exfalso
          have : Lib.indexByte t c = -1 := by omega
          rw [this] at hne
          exact hne rfl
      · right
        split
        · rename_i he
          rw [h1] at he
          have : (i : Int) = -1 := (beq_iff_eq.1 he)
          omega
        · exact ⟨i + 1, by rw [h1]; omega, by simp; omega⟩
def cutA (s p : List UInt8) : List UInt8 := bif decide (0 ≤ ixV s p) then s.take (ixV s p).toNat else s
def cutB (s p : List UInt8) : List UInt8 := bif decide (0 ≤ ixV s p) then s.drop ((ixV s p).toNat + 1) else []
def cutC (s p : List UInt8) : Bool := decide (0 ≤ ixV s p)
noncomputable def lcut_W : FnW E := fn23 (E := E) .str .str .str .str .bool okIx cutA cutB cutC
def lcut_id : FuncId := 108
noncomputable def lcut_O : Oracle E := orac [(152, sindex_W)] [] [] []
noncomputable def lcut_H : Hint E := Hint.mk [] [] [] [] []
noncomputable def lcut_t (_G : Nat → ASt E → Option (List (TV E))) (x0 x1 : List UInt8) : Option (List (TV E)) :=
  bif (okIx x0 x1) then (bif (decide ((0 : Int) ≤ (ixV x0 x1))) then (bif (decide ((0 : Int) ≤ (0 : Int)) && decide ((0 : Int) ≤ (ixV x0 x1)) && decide ((ixV x0 x1) ≤ (x0.length : Int))) then (bif (decide ((0 : Int) ≤ (w64 ((ixV x0 x1) + (x1.length : Int)))) && decide ((w64 ((ixV x0 x1) + (x1.length : Int))) ≤ (x0.length : Int)) && decide ((x0.length : Int) ≤ (x0.length : Int))) then some [⟨.str, (List.take (Int.toNat (ixV x0 x1) - Int.toNat (0 : Int)) (List.drop (Int.toNat (0 : Int)) x0))⟩, ⟨.str, (List.take (Int.toNat (x0.length : Int) - Int.toNat (w64 ((ixV x0 x1) + (x1.length : Int)))) (List.drop (Int.toNat (w64 ((ixV x0 x1) + (x1.length : Int)))) x0))⟩, ⟨.bool, true⟩] else none) else none) else some [⟨.str, x0⟩, ⟨.str, ([] : List UInt8)⟩, ⟨.bool, false⟩]) else none
theorem lcut_e (G : Nat → ASt E → Option (List (TV E))) (x0 : List UInt8) (x1 : List UInt8) : runE lcut_O lcut_H G Tryz.f108 [⟨.str, x0⟩, ⟨.str, x1⟩] = lcut_t G x0 x1 := by kernel_rfl
theorem lcut_f : Tryz.prog.funcs[108]? = some Tryz.f108 := by kernel_rfl
theorem lcut_n : (Tryz.f108.name == "runtime.NumGoroutine") = false := by kernel_rfl
theorem lcut_b : Tryz.f108.body.isNone = false := by kernel_rfl
theorem lcut_ex : ∃ fn, Tryz.prog.funcs[108]? = some fn ∧ (fn.name == "runtime.NumGoroutine") = false ∧ fn.body.isNone = false := ⟨Tryz.f108, lcut_f, lcut_n, lcut_b⟩
theorem lcut_hO : OracleOk E lcut_O := orac_ok (.cons sindex_ok .nil) .nil .nil .nil
theorem lcut_ok_of (h : ∀ (x0 : List UInt8) (x1 : List UInt8), okIx x0 x1 = true → lcut_t (Gr E Tryz.f108 [⟨.str, cutA x0 x1⟩, ⟨.str, cutB x0 x1⟩, ⟨.bool, cutC x0 x1⟩]) x0 x1 = some [⟨.str, cutA x0 x1⟩, ⟨.str, cutB x0 x1⟩, ⟨.bool, cutC x0 x1⟩]) : FnOk E lcut_id lcut_W := fn23_ok lcut_hO mix lcut_f lcut_n lcut_b (fun x0 x1 hk => (lcut_e _ x0 x1).trans (h x0 x1 hk))
theorem lcut_ok : FnOk E lcut_id lcut_W := lcut_ok_of fun s p hk => by
  have hk' := hk
  simp only [okIx, Bool.and_eq_true, decide_eq_true_eq] at hk'
  obtain ⟨hs, hp⟩ := hk'
  simp only [lcut_t, hk, cond_true, cutA, cutB, cutC]
  rcases ix_ge s (p.headD 0) with h | ⟨i, h1, h2⟩
  · have h : ¬ 0 ≤ ixV s p := by unfold ixV; omega
    rw [dF h]; rfl
  · have e : ixV s p = (i : Int) := h1
    have e3 : w64 ((i : Int) + (p.length : Int)) = ((i + 1 : Nat) : Int) := by rw [hp, w64_id (by omega) (by omega)]; omega
    have c1 : List.take (Int.toNat (i : Int) - Int.toNat 0) (List.drop (Int.toNat 0) s) = s.take (Int.toNat (i : Int)) := by simp
    have c2 : List.take (Int.toNat (s.length : Int) - Int.toNat ((i + 1 : Nat) : Int)) (List.drop (Int.toNat ((i + 1 : Nat) : Int)) s) = s.drop (Int.toNat (i : Int) + 1) := by
      rw [Int.toNat_natCast, Int.toNat_natCast, Int.toNat_natCast]
      exact List.take_of_length_le (by rw [List.length_drop]; omega)
    rw [e, e3, c1, c2, dT (show (0 : Int) ≤ (i : Int) by omega), dT (show (i : Int) ≤ (s.length : Int) by omega), dT (show (0 : Int) ≤ ((i + 1 : Nat) : Int) by omega), dT (show ((i + 1 : Nat) : Int) ≤ (s.length : Int) by omega), dT (show (s.length : Int) ≤ (s.length : Int) by omega)]
    rfl
noncomputable def scut_W : FnW E := fn23 (E := E) .str .str .str .str .bool okIx cutA cutB cutC
def scut_id : FuncId := 49
noncomputable def scut_O : Oracle E := orac [(108, lcut_W)] [] [] []
noncomputable def scut_H : Hint E := Hint.mk [] [] [] [] []
noncomputable def scut_t (_G : Nat → ASt E → Option (List (TV E))) (x0 x1 : List UInt8) : Option (List (TV E)) :=
  bif (okIx x0 x1) then some [⟨.str, (cutA x0 x1)⟩, ⟨.str, (cutB x0 x1)⟩, ⟨.bool, (cutC x0 x1)⟩] else none
theorem scut_e (G : Nat → ASt E → Option (List (TV E))) (x0 : List UInt8) (x1 : List UInt8) : runE scut_O scut_H G Tryz.f49 [⟨.str, x0⟩, ⟨.str, x1⟩] = scut_t G x0 x1 := by kernel_rfl
theorem scut_f : Tryz.prog.funcs[49]? = some Tryz.f49 := by kernel_rfl
theorem scut_n : (Tryz.f49.name == "runtime.NumGoroutine") = false := by kernel_rfl
theorem scut_b : Tryz.f49.body.isNone = false := by kernel_rfl
theorem scut_ex : ∃ fn, Tryz.prog.funcs[49]? = some fn ∧ (fn.name == "runtime.NumGoroutine") = false ∧ fn.body.isNone = false := ⟨Tryz.f49, scut_f, scut_n, scut_b⟩
theorem scut_hO : OracleOk E scut_O := orac_ok (.cons lcut_ok .nil) .nil .nil .nil
theorem scut_ok_of (h : ∀ (x0 : List UInt8) (x1 : List UInt8), okIx x0 x1 = true → scut_t (Gr E Tryz.f49 [⟨.str, cutA x0 x1⟩, ⟨.str, cutB x0 x1⟩, ⟨.bool, cutC x0 x1⟩]) x0 x1 = some [⟨.str, cutA x0 x1⟩, ⟨.str, cutB x0 x1⟩, ⟨.bool, cutC x0 x1⟩]) : FnOk E scut_id scut_W := fn23_ok scut_hO mix scut_f scut_n scut_b (fun x0 x1 hk => (scut_e _ x0 x1).trans (h x0 x1 hk))
theorem scut_ok : FnOk E scut_id scut_W := scut_ok_of fun s p hk => by
  simp only [scut_t, hk, cond_true]
end Go.Proofs.YtfoflgciceckoaaGreatDoor.Rf