/- The reference's spans and amounts (03, 04): there is a result, by the Mirror. -/
import Derived.Test.YtoelhlikomifjaaGreatR5
import Derived.Test.YtoelhlikomifjaaGreatMirW
namespace Go.Proofs.YtoelhlikomifjaaGreat.Rf
open Go Go.RowKit Go.Sort Go.Proofs.YtoelhlikomifjaaGreat.Mir
theorem w64_rng (n : Int) : -9223372036854775808 ≤ w64 n ∧ w64 n ≤ 9223372036854775807 := by
  unfold w64
  rw [IntKind.wrap_i64]
  omega
theorem okI_w64 (n : Int) : okI (w64 n) = true := by have := w64_rng n; simp [okI]; omega
theorem msT {n : Nat} (h : n ≤ 4611686018427387904) : decide (n ≤ maxStr) = true := dT h
def longsV : Arr121 := ⟨3600000, 60000, 1000, 1⟩
noncomputable def rlongs_W : FnW E := fn0 (E := E) .a4_int true longsV
def rlongs_id : FuncId := 113
noncomputable def rlongs_O : Oracle E := orac [] [] [] []
noncomputable def rlongs_H : Hint E := Hint.mk [] [] [] [] []
noncomputable def rlongs_t (_G : Nat → ASt E → Option (List (TV E)))  : Option (List (TV E)) :=
  some [⟨.a4_int, (⟨(3600000 : Int), (60000 : Int), (1000 : Int), (1 : Int)⟩ : Arr121)⟩]
theorem rlongs_e (G : Nat → ASt E → Option (List (TV E)))  : runE rlongs_O rlongs_H G Tryz.f113 [] = rlongs_t G  := by kernel_rfl
theorem rlongs_f : Tryz.prog.funcs[113]? = some Tryz.f113 := by kernel_rfl
theorem rlongs_n : (Tryz.f113.name == "runtime.NumGoroutine") = false := by kernel_rfl
theorem rlongs_b : Tryz.f113.body.isNone = false := by kernel_rfl
theorem rlongs_ex : ∃ fn, Tryz.prog.funcs[113]? = some fn ∧ (fn.name == "runtime.NumGoroutine") = false ∧ fn.body.isNone = false := ⟨Tryz.f113, rlongs_f, rlongs_n, rlongs_b⟩
theorem rlongs_hO : OracleOk E rlongs_O := orac_ok .nil .nil .nil .nil
theorem rlongs_ok_of (h : rlongs_t (Gr E Tryz.f113 [⟨.a4_int, longsV ⟩])  = some [⟨.a4_int, longsV ⟩]) : FnOk E rlongs_id rlongs_W := fn0_ok rlongs_hO mix rlongs_f rlongs_n rlongs_b (fun _ => (rlongs_e _).trans h)
theorem rlongs_ok : FnOk E rlongs_id rlongs_W := rlongs_ok_of rfl
def namesV : Arr125 := ⟨[104], [109], [115], [109, 115]⟩
noncomputable def rnames_W : FnW E := fn0 (E := E) .a4_str true namesV
def rnames_id : FuncId := 114
noncomputable def rnames_O : Oracle E := orac [] [] [] []
noncomputable def rnames_H : Hint E := Hint.mk [] [] [] [] []
noncomputable def rnames_t (_G : Nat → ASt E → Option (List (TV E)))  : Option (List (TV E)) :=
  some [⟨.a4_str, (⟨([104] : List UInt8), ([109] : List UInt8), ([115] : List UInt8), ([109, 115] : List UInt8)⟩ : Arr125)⟩]
theorem rnames_e (G : Nat → ASt E → Option (List (TV E)))  : runE rnames_O rnames_H G Tryz.f114 [] = rnames_t G  := by kernel_rfl
theorem rnames_f : Tryz.prog.funcs[114]? = some Tryz.f114 := by kernel_rfl
theorem rnames_n : (Tryz.f114.name == "runtime.NumGoroutine") = false := by kernel_rfl
theorem rnames_b : Tryz.f114.body.isNone = false := by kernel_rfl
theorem rnames_ex : ∃ fn, Tryz.prog.funcs[114]? = some fn ∧ (fn.name == "runtime.NumGoroutine") = false ∧ fn.body.isNone = false := ⟨Tryz.f114, rnames_f, rnames_n, rnames_b⟩
theorem rnames_hO : OracleOk E rnames_O := orac_ok .nil .nil .nil .nil
theorem rnames_ok_of (h : rnames_t (Gr E Tryz.f114 [⟨.a4_str, namesV ⟩])  = some [⟨.a4_str, namesV ⟩]) : FnOk E rnames_id rnames_W := fn0_ok rnames_hO mix rnames_f rnames_n rnames_b (fun _ => (rnames_e _).trans h)
theorem rnames_ok : FnOk E rnames_id rnames_W := rnames_ok_of rfl
def grPr (s : List UInt8) (p : List UInt8 × Int × List UInt8 × Bool) : Prop := (0 ≤ p.2.1 ∧ p.2.1 ≤ 3) ∧ (p.2.2.2 = true → (p.1.length ≤ s.length ∧ p.1.all isD = true) ∧ p.2.2.1.length < s.length)
noncomputable def rgroup_O : Oracle E := orac [(86, rwhole_W)] [] [] []
noncomputable def rgroup_H : Hint E := Hint.mk [(0, [0, 6])] [] [] [] []
noncomputable def rgroup_C0 (v0 : List UInt8) (v1 : Int) : ASt E := ASt.mk 90 [(0, .d (.str v0)), (6, .d (.int .i64 v1))] [] 0
noncomputable def rgroup_t (G : Nat → ASt E → Option (List (TV E))) (x0 : List UInt8) : Option (List (TV E)) :=
  G 0 (rgroup_C0 x0 (0 : Int))
theorem rgroup_e (G : Nat → ASt E → Option (List (TV E))) (x0 : List UInt8) : runE rgroup_O rgroup_H G Tryz.f112 [⟨.str, x0⟩] = rgroup_t G x0 := by kernel_rfl
noncomputable def rgroup_t0 (G : Nat → ASt E → Option (List (TV E))) (v0 : List UInt8) (v1 : Int) : Option (List (TV E)) :=
  bif ((decide ((0 : Int) ≤ v1) && decide (v1 < (v0.length : Int))) || !(decide (v1 < (v0.length : Int)))) then (bif ((decide ((0 : Int) ≤ v1) && decide (v1 < (v0.length : Int))) || !(bif (decide (v1 < (v0.length : Int))) then (decide ((48 : Int) ≤ (((List.getD v0 (Int.toNat v1) 0).toNat : Nat) : Int))) else false)) then (bif (bif (bif (decide (v1 < (v0.length : Int))) then (decide ((48 : Int) ≤ (((List.getD v0 (Int.toNat v1) 0).toNat : Nat) : Int))) else false) then (decide ((((List.getD v0 (Int.toNat v1) 0).toNat : Nat) : Int) ≤ (57 : Int))) else false) then G 0 (rgroup_C0 v0 (w64 (v1 + (1 : Int)))) else (bif (decide ((0 : Int) ≤ (0 : Int)) && decide ((0 : Int) ≤ v1) && decide (v1 ≤ (v0.length : Int))) then (bif (decide ((0 : Int) ≤ v1) && decide (v1 ≤ (v0.length : Int)) && decide ((v0.length : Int) ≤ (v0.length : Int))) then (bif ((decide ((0 : Int) ≤ (0 : Int)) && decide ((0 : Int) < ((List.take (Int.toNat (v0.length : Int) - Int.toNat v1) (List.drop (Int.toNat v1) v0)).length : Int))) || !(decide ((2 : Int) ≤ ((List.take (Int.toNat (v0.length : Int) - Int.toNat v1) (List.drop (Int.toNat v1) v0)).length : Int)))) then (bif ((decide ((0 : Int) ≤ (1 : Int)) && decide ((1 : Int) < ((List.take (Int.toNat (v0.length : Int) - Int.toNat v1) (List.drop (Int.toNat v1) v0)).length : Int))) || !(bif (decide ((2 : Int) ≤ ((List.take (Int.toNat (v0.length : Int) - Int.toNat v1) (List.drop (Int.toNat v1) v0)).length : Int))) then ((((List.getD (List.take (Int.toNat (v0.length : Int) - Int.toNat v1) (List.drop (Int.toNat v1) v0)) (Int.toNat (0 : Int)) 0).toNat : Nat) : Int) == (109 : Int)) else false)) then (bif (bif (bif (decide ((2 : Int) ≤ ((List.take (Int.toNat (v0.length : Int) - Int.toNat v1) (List.drop (Int.toNat v1) v0)).length : Int))) then ((((List.getD (List.take (Int.toNat (v0.length : Int) - Int.toNat v1) (List.drop (Int.toNat v1) v0)) (Int.toNat (0 : Int)) 0).toNat : Nat) : Int) == (109 : Int)) else false) then ((((List.getD (List.take (Int.toNat (v0.length : Int) - Int.toNat v1) (List.drop (Int.toNat v1) v0)) (Int.toNat (1 : Int)) 0).toNat : Nat) : Int) == (115 : Int)) else false) then (bif (decide ((0 : Int) ≤ (2 : Int)) && decide ((2 : Int) ≤ ((List.take (Int.toNat (v0.length : Int) - Int.toNat v1) (List.drop (Int.toNat v1) v0)).length : Int)) && decide (((List.take (Int.toNat (v0.length : Int) - Int.toNat v1) (List.drop (Int.toNat v1) v0)).length : Int) ≤ ((List.take (Int.toNat (v0.length : Int) - Int.toNat v1) (List.drop (Int.toNat v1) v0)).length : Int))) then (bif (okL1 (List.take (Int.toNat v1 - Int.toNat (0 : Int)) (List.drop (Int.toNat (0 : Int)) v0))) then some [⟨.str, (List.take (Int.toNat v1 - Int.toNat (0 : Int)) (List.drop (Int.toNat (0 : Int)) v0))⟩, ⟨.int, (3 : Int)⟩, ⟨.str, (List.take (Int.toNat ((List.take (Int.toNat (v0.length : Int) - Int.toNat v1) (List.drop (Int.toNat v1) v0)).length : Int) - Int.toNat (2 : Int)) (List.drop (Int.toNat (2 : Int)) (List.take (Int.toNat (v0.length : Int) - Int.toNat v1) (List.drop (Int.toNat v1) v0))))⟩, ⟨.bool, (wholeB (List.take (Int.toNat v1 - Int.toNat (0 : Int)) (List.drop (Int.toNat (0 : Int)) v0)))⟩] else none) else none) else (bif ((decide ((0 : Int) ≤ (0 : Int)) && decide ((0 : Int) < ((List.take (Int.toNat (v0.length : Int) - Int.toNat v1) (List.drop (Int.toNat v1) v0)).length : Int))) || !(decide ((1 : Int) ≤ ((List.take (Int.toNat (v0.length : Int) - Int.toNat v1) (List.drop (Int.toNat v1) v0)).length : Int)))) then (bif (bif (decide ((1 : Int) ≤ ((List.take (Int.toNat (v0.length : Int) - Int.toNat v1) (List.drop (Int.toNat v1) v0)).length : Int))) then ((((List.getD (List.take (Int.toNat (v0.length : Int) - Int.toNat v1) (List.drop (Int.toNat v1) v0)) (Int.toNat (0 : Int)) 0).toNat : Nat) : Int) == (104 : Int)) else false) then (bif (decide ((0 : Int) ≤ (1 : Int)) && decide ((1 : Int) ≤ ((List.take (Int.toNat (v0.length : Int) - Int.toNat v1) (List.drop (Int.toNat v1) v0)).length : Int)) && decide (((List.take (Int.toNat (v0.length : Int) - Int.toNat v1) (List.drop (Int.toNat v1) v0)).length : Int) ≤ ((List.take (Int.toNat (v0.length : Int) - Int.toNat v1) (List.drop (Int.toNat v1) v0)).length : Int))) then (bif (okL1 (List.take (Int.toNat v1 - Int.toNat (0 : Int)) (List.drop (Int.toNat (0 : Int)) v0))) then some [⟨.str, (List.take (Int.toNat v1 - Int.toNat (0 : Int)) (List.drop (Int.toNat (0 : Int)) v0))⟩, ⟨.int, (0 : Int)⟩, ⟨.str, (List.take (Int.toNat ((List.take (Int.toNat (v0.length : Int) - Int.toNat v1) (List.drop (Int.toNat v1) v0)).length : Int) - Int.toNat (1 : Int)) (List.drop (Int.toNat (1 : Int)) (List.take (Int.toNat (v0.length : Int) - Int.toNat v1) (List.drop (Int.toNat v1) v0))))⟩, ⟨.bool, (wholeB (List.take (Int.toNat v1 - Int.toNat (0 : Int)) (List.drop (Int.toNat (0 : Int)) v0)))⟩] else none) else none) else (bif ((decide ((0 : Int) ≤ (0 : Int)) && decide ((0 : Int) < ((List.take (Int.toNat (v0.length : Int) - Int.toNat v1) (List.drop (Int.toNat v1) v0)).length : Int))) || !(decide ((1 : Int) ≤ ((List.take (Int.toNat (v0.length : Int) - Int.toNat v1) (List.drop (Int.toNat v1) v0)).length : Int)))) then (bif (bif (decide ((1 : Int) ≤ ((List.take (Int.toNat (v0.length : Int) - Int.toNat v1) (List.drop (Int.toNat v1) v0)).length : Int))) then ((((List.getD (List.take (Int.toNat (v0.length : Int) - Int.toNat v1) (List.drop (Int.toNat v1) v0)) (Int.toNat (0 : Int)) 0).toNat : Nat) : Int) == (109 : Int)) else false) then (bif (decide ((0 : Int) ≤ (1 : Int)) && decide ((1 : Int) ≤ ((List.take (Int.toNat (v0.length : Int) - Int.toNat v1) (List.drop (Int.toNat v1) v0)).length : Int)) && decide (((List.take (Int.toNat (v0.length : Int) - Int.toNat v1) (List.drop (Int.toNat v1) v0)).length : Int) ≤ ((List.take (Int.toNat (v0.length : Int) - Int.toNat v1) (List.drop (Int.toNat v1) v0)).length : Int))) then (bif (okL1 (List.take (Int.toNat v1 - Int.toNat (0 : Int)) (List.drop (Int.toNat (0 : Int)) v0))) then some [⟨.str, (List.take (Int.toNat v1 - Int.toNat (0 : Int)) (List.drop (Int.toNat (0 : Int)) v0))⟩, ⟨.int, (1 : Int)⟩, ⟨.str, (List.take (Int.toNat ((List.take (Int.toNat (v0.length : Int) - Int.toNat v1) (List.drop (Int.toNat v1) v0)).length : Int) - Int.toNat (1 : Int)) (List.drop (Int.toNat (1 : Int)) (List.take (Int.toNat (v0.length : Int) - Int.toNat v1) (List.drop (Int.toNat v1) v0))))⟩, ⟨.bool, (wholeB (List.take (Int.toNat v1 - Int.toNat (0 : Int)) (List.drop (Int.toNat (0 : Int)) v0)))⟩] else none) else none) else (bif ((decide ((0 : Int) ≤ (0 : Int)) && decide ((0 : Int) < ((List.take (Int.toNat (v0.length : Int) - Int.toNat v1) (List.drop (Int.toNat v1) v0)).length : Int))) || !(decide ((1 : Int) ≤ ((List.take (Int.toNat (v0.length : Int) - Int.toNat v1) (List.drop (Int.toNat v1) v0)).length : Int)))) then (bif (bif (decide ((1 : Int) ≤ ((List.take (Int.toNat (v0.length : Int) - Int.toNat v1) (List.drop (Int.toNat v1) v0)).length : Int))) then ((((List.getD (List.take (Int.toNat (v0.length : Int) - Int.toNat v1) (List.drop (Int.toNat v1) v0)) (Int.toNat (0 : Int)) 0).toNat : Nat) : Int) == (115 : Int)) else false) then (bif (decide ((0 : Int) ≤ (1 : Int)) && decide ((1 : Int) ≤ ((List.take (Int.toNat (v0.length : Int) - Int.toNat v1) (List.drop (Int.toNat v1) v0)).length : Int)) && decide (((List.take (Int.toNat (v0.length : Int) - Int.toNat v1) (List.drop (Int.toNat v1) v0)).length : Int) ≤ ((List.take (Int.toNat (v0.length : Int) - Int.toNat v1) (List.drop (Int.toNat v1) v0)).length : Int))) then (bif (okL1 (List.take (Int.toNat v1 - Int.toNat (0 : Int)) (List.drop (Int.toNat (0 : Int)) v0))) then some [⟨.str, (List.take (Int.toNat v1 - Int.toNat (0 : Int)) (List.drop (Int.toNat (0 : Int)) v0))⟩, ⟨.int, (2 : Int)⟩, ⟨.str, (List.take (Int.toNat ((List.take (Int.toNat (v0.length : Int) - Int.toNat v1) (List.drop (Int.toNat v1) v0)).length : Int) - Int.toNat (1 : Int)) (List.drop (Int.toNat (1 : Int)) (List.take (Int.toNat (v0.length : Int) - Int.toNat v1) (List.drop (Int.toNat v1) v0))))⟩, ⟨.bool, (wholeB (List.take (Int.toNat v1 - Int.toNat (0 : Int)) (List.drop (Int.toNat (0 : Int)) v0)))⟩] else none) else none) else some [⟨.str, ([] : List UInt8)⟩, ⟨.int, (0 : Int)⟩, ⟨.str, ([] : List UInt8)⟩, ⟨.bool, false⟩]) else none)) else none)) else none)) else none) else none) else none) else none)) else none) else none
theorem rgroup_l0 (G : Nat → ASt E → Option (List (TV E))) (v0 : List UInt8) (v1 : Int) : runL rgroup_O rgroup_H G Tryz.f112 0 (rgroup_C0 v0 v1) = rgroup_t0 G v0 v1 := by kernel_rfl
theorem rgroup_f : Tryz.prog.funcs[112]? = some Tryz.f112 := by kernel_rfl
theorem rgroup_n : (Tryz.f112.name == "runtime.NumGoroutine") = false := by kernel_rfl
theorem rgroup_b : Tryz.f112.body.isNone = false := by kernel_rfl
theorem rgroup_ex : ∃ fn, Tryz.prog.funcs[112]? = some fn ∧ (fn.name == "runtime.NumGoroutine") = false ∧ fn.body.isNone = false := ⟨Tryz.f112, rgroup_f, rgroup_n, rgroup_b⟩
theorem rgroup_hO : OracleOk E rgroup_O := orac_ok (.cons rwhole_ok .nil) .nil .nil .nil
theorem rgroup_s0 {res : List (TV E)} {v0 : List UInt8} {v1 : Int} (h : rgroup_t0 (Gr E Tryz.f112 res) v0 v1 = some res) : Ev E Tryz.f112 res 0 (rgroup_C0 v0 v1) := Ev.step rgroup_hO mix ((rgroup_l0 _ v0 v1).trans h)
def rgroup_any (x0 : List UInt8) (p : (List UInt8) × Int × (List UInt8) × Bool) : Prop := rgroup_t (Gr E Tryz.f112 [⟨.str, p.1⟩, ⟨.int, p.2.1⟩, ⟨.str, p.2.2.1⟩, ⟨.bool, p.2.2.2⟩]) x0 = some [⟨.str, p.1⟩, ⟨.int, p.2.1⟩, ⟨.str, p.2.2.1⟩, ⟨.bool, p.2.2.2⟩] ∧ grPr x0 p
noncomputable def rgroup_p (x0 : List UInt8) : (List UInt8) × Int × (List UInt8) × Bool := @Classical.epsilon _ ⟨(dflt .str, dflt .int, dflt .str, dflt .bool)⟩ (rgroup_any x0)
noncomputable def rgroup_r0 (x0 : List UInt8) : List UInt8 := (rgroup_p x0).1
noncomputable def rgroup_r1 (x0 : List UInt8) : Int := (rgroup_p x0).2.1
noncomputable def rgroup_r2 (x0 : List UInt8) : List UInt8 := (rgroup_p x0).2.2.1
noncomputable def rgroup_r3 (x0 : List UInt8) : Bool := (rgroup_p x0).2.2.2
theorem rgroup_spec (x0 : List UInt8) (h : ∃ p, rgroup_any x0 p) : rgroup_any x0 (rgroup_p x0) := Classical.epsilon_spec h
noncomputable def rgroup_W : FnW E := fn14 (E := E) .str .str .int .str .bool okL1 rgroup_r0 rgroup_r1 rgroup_r2 rgroup_r3
def rgroup_id : FuncId := 112
theorem rgroup_ok_of (h : ∀ (x0 : List UInt8), okL1 x0 = true → rgroup_t (Gr E Tryz.f112 [⟨.str, rgroup_r0 x0⟩, ⟨.int, rgroup_r1 x0⟩, ⟨.str, rgroup_r2 x0⟩, ⟨.bool, rgroup_r3 x0⟩]) x0 = some [⟨.str, rgroup_r0 x0⟩, ⟨.int, rgroup_r1 x0⟩, ⟨.str, rgroup_r2 x0⟩, ⟨.bool, rgroup_r3 x0⟩]) : FnOk E rgroup_id rgroup_W := fn14_ok rgroup_hO mix rgroup_f rgroup_n rgroup_b (fun x0 hk => (rgroup_e _ x0).trans (h x0 hk))
theorem drop_lt {α : Type} (s : List α) (i k : Nat) (h : k + 1 ≤ (s.drop i).length) : ((s.drop i).drop (k + 1)).length < s.length := by
  rw [List.length_drop] at *
  rw [List.length_drop]; omega
theorem wholeD {s : List UInt8} (h : wholeB s = true) : s.all isD = true := by simp only [wholeB, Bool.and_eq_true] at h; exact h.2
theorem rgroup_end (s : List UInt8) (hs : s.length ≤ 1000000) (i : Nat) (hi : i ≤ s.length) (hx : (bif bif decide ((i : Int) < (s.length : Int)) then decide ((48 : Int) ≤ ((List.getD s i 0).toNat : Int)) else false then decide (((List.getD s i 0).toNat : Int) ≤ 57) else false) = false)
    (hx1 : ((decide ((i : Int) < (s.length : Int)) || !(decide ((i : Int) < (s.length : Int))))) = true) (hx2 : (decide ((i : Int) < (s.length : Int)) || !(bif decide ((i : Int) < (s.length : Int)) then decide ((48 : Int) ≤ ((List.getD s i 0).toNat : Int)) else false)) = true) :
    ∃ p : List UInt8 × Int × List UInt8 × Bool, grPr s p ∧ Ev E Tryz.f112 [⟨.str, p.1⟩, ⟨.int, p.2.1⟩, ⟨.str, p.2.2.1⟩, ⟨.bool, p.2.2.2⟩] 0 (rgroup_C0 s i) := by
  have o1 : okL1 (s.take i) = true := okL1_iff.2 (by simp; omega)
  have hdr := drop_lt s i
  refine anyS (fun _ h => rgroup_s0 h) ?_
  simp only [rgroup_t0, cutN, cutT, dle hi, d00, d0, dlr, Bool.and_self, Bool.true_and, Int.toNat_natCast, o1, hx, hx1, hx2, cond_true, cond_false]
  generalize s.drop i = r at *
  have hb : wholeB (s.take i) = true → (s.take i).length ≤ s.length ∧ (s.take i).all isD = true := fun h => ⟨by simp; omega, wholeD h⟩
  generalize wholeB (s.take i) = b at *
  rcases r with _ | ⟨c, _ | ⟨d, t⟩⟩
  · exact ⟨(_, _, _, _), ⟨by simp, fun h => by cases h⟩, rfl⟩
  · have h1 := hdr 0 (by simp)
    simp only [List.length_singleton, List.length_nil, List.getD_cons_zero, Int.toNat_zero, List.getD, List.getElem?_cons_zero, Option.getD_some]
    cases (c.toNat : Int) == 104 <;> cases (c.toNat : Int) == 109 <;> cases (c.toNat : Int) == 115 <;>
      first | exact ⟨(_, _, _, _), ⟨by simp, fun h => ⟨hb h, h1⟩⟩, rfl⟩ | exact ⟨(_, _, _, _), ⟨by simp, fun h => by cases h⟩, rfl⟩
  · have h1 := hdr 0 (by simp)
    have h2 := hdr 1 (by simp)
    have e1 : decide ((2 : Int) ≤ ((c :: d :: t).length : Int)) = true := dT (by simp only [List.length_cons]; omega)
    have e2 : decide ((0 : Int) < ((c :: d :: t).length : Int)) = true := dT (by simp only [List.length_cons]; omega)
    have e3 : decide ((1 : Int) < ((c :: d :: t).length : Int)) = true := dT (by simp only [List.length_cons]; omega)
    have e4 : decide ((1 : Int) ≤ ((c :: d :: t).length : Int)) = true := dT (by simp only [List.length_cons]; omega)
    have g0 : List.getD (c :: d :: t) (Int.toNat 0) 0 = c := rfl
    have g1 : List.getD (c :: d :: t) (Int.toNat 1) 0 = d := rfl
    have k1 : List.take ((c :: d :: t).length - Int.toNat 1) (List.drop (Int.toNat 1) (c :: d :: t)) = (c :: d :: t).drop 1 := cutN _ 1
    have k2 : List.take ((c :: d :: t).length - Int.toNat 2) (List.drop (Int.toNat 2) (c :: d :: t)) = (c :: d :: t).drop 2 := cutN _ 2
    have z1 : decide ((0 : Int) ≤ 1) = true := rfl
    have z2 : decide ((0 : Int) ≤ 2) = true := rfl
    simp only [e1, e2, e3, e4, g0, g1, k1, k2, z1, z2, Bool.true_or, Bool.and_self, cond_true]
    cases (c.toNat : Int) == 104 <;> cases (c.toNat : Int) == 109 <;> cases (c.toNat : Int) == 115 <;> cases (d.toNat : Int) == 115 <;>
      first | exact ⟨(_, _, _, _), ⟨by simp, fun h => ⟨hb h, h2⟩⟩, rfl⟩ | exact ⟨(_, _, _, _), ⟨by simp, fun h => ⟨hb h, h1⟩⟩, rfl⟩ | exact ⟨(_, _, _, _), ⟨by simp, fun h => by cases h⟩, rfl⟩
theorem rgroup_0 (s : List UInt8) (hs : s.length ≤ 1000000) : ∀ (m i : Nat), s.length - i = m → i ≤ s.length →
    ∃ p : List UInt8 × Int × List UInt8 × Bool, grPr s p ∧ Ev E Tryz.f112 [⟨.str, p.1⟩, ⟨.int, p.2.1⟩, ⟨.str, p.2.2.1⟩, ⟨.bool, p.2.2.2⟩] 0 (rgroup_C0 s i) := by
  intro m
  induction m with
  | zero =>
    intro i h1 h2
    have hd := dge (show s.length ≤ i by omega)
    exact rgroup_end s hs i h2 (by rw [hd]; rfl) (by rw [hd]; rfl) (by rw [hd]; rfl)
  | succ m ih =>
    intro i h1 h2
    have hi : i < s.length := by omega
    have e3 : w64 ((i : Int) + 1) = ((i + 1 : Nat) : Int) := by rw [w64_id (by omega) (by omega)]; omega
    have hd := dlt hi
    cases hx : (bif bif decide ((i : Int) < (s.length : Int)) then decide ((48 : Int) ≤ ((List.getD s i 0).toNat : Int)) else false then decide (((List.getD s i 0).toNat : Int) ≤ 57) else false) with
    | false => exact rgroup_end s hs i h2 hx (by rw [hd]; rfl) (by rw [hd]; rfl)
    | true =>
      refine anyS (fun _ h => rgroup_s0 h) ?_
      rw [hd] at hx
      simp only [rgroup_t0, hd, d0, Bool.and_self, Bool.true_or, cond_true, e3, Int.toNat_natCast] at hx ⊢
      simp only [hx, cond_true]
      exact anyS (fun _ h => Gr_of h) (ih (i + 1) (by omega) (by omega))
theorem rgroup_ok : FnOk E rgroup_id rgroup_W := rgroup_ok_of fun s hk => by
  obtain ⟨p, hp1, hp⟩ := rgroup_0 s (okL1_iff.1 hk) _ 0 rfl (Nat.zero_le _)
  exact (rgroup_spec s ⟨p, Gr_of hp, hp1⟩).1
theorem rgroup_pr (s : List UInt8) (hs : s.length ≤ 1000000) : grPr s (rgroup_p s) := by
  obtain ⟨p, hp1, hp⟩ := rgroup_0 s hs _ 0 rfl (Nat.zero_le _)
  exact (rgroup_spec s ⟨p, Gr_of hp, hp1⟩).2
noncomputable def rdparse_O : Oracle E := orac [(87, rvalue_W), (112, rgroup_W), (113, rlongs_W)] [] [] []
noncomputable def rdparse_H : Hint E := Hint.mk [(0, [0, 4, 5, 6]), (1, [4, 5, 12, 13, 14])] [] [] [(14, [(8, 4)])] []
noncomputable def rdparse_C0 (v0 : List UInt8) (v1 : Bool) (v2 : Int) (v3 : Int) (v4 : Int) (v5 : Int) (v6 : Int) : ASt E := ASt.mk 87 [(0, .d (.str v0)), (4, .ptr 0 0), (5, .d (.bool v1)), (6, .d (.int .i64 v2))] [(0, .box [.d (.int .i64 v3), .d (.int .i64 v4), .d (.int .i64 v5), .d (.int .i64 v6)])] 1
noncomputable def rdparse_C1_0 (v0 : Bool) (v1 : Int) (v2 : Int) (v3 : Int) (v4 : Int) (v5 : Int) (v6 : Int) (v7 : Int) (v8 : Int) (v9 : Int) : ASt E := ASt.mk 87 [(4, .ptr 0 0), (5, .d (.bool v0)), (12, .ptr 1 0), (13, .d (.int .i64 v1)), (14, .d (.int .i64 (0 : Int)))] [(0, .box [.d (.int .i64 v2), .d (.int .i64 v3), .d (.int .i64 v4), .d (.int .i64 v5)]), (1, .box [.d (.int .i64 v6), .d (.int .i64 v7), .d (.int .i64 v8), .d (.int .i64 v9)])] 2
noncomputable def rdparse_C1_1 (v0 : Bool) (v1 : Int) (v2 : Int) (v3 : Int) (v4 : Int) (v5 : Int) (v6 : Int) (v7 : Int) (v8 : Int) (v9 : Int) : ASt E := ASt.mk 87 [(4, .ptr 0 0), (5, .d (.bool v0)), (12, .ptr 1 0), (13, .d (.int .i64 v1)), (14, .d (.int .i64 (1 : Int)))] [(0, .box [.d (.int .i64 v2), .d (.int .i64 v3), .d (.int .i64 v4), .d (.int .i64 v5)]), (1, .box [.d (.int .i64 v6), .d (.int .i64 v7), .d (.int .i64 v8), .d (.int .i64 v9)])] 2
noncomputable def rdparse_C1_2 (v0 : Bool) (v1 : Int) (v2 : Int) (v3 : Int) (v4 : Int) (v5 : Int) (v6 : Int) (v7 : Int) (v8 : Int) (v9 : Int) : ASt E := ASt.mk 87 [(4, .ptr 0 0), (5, .d (.bool v0)), (12, .ptr 1 0), (13, .d (.int .i64 v1)), (14, .d (.int .i64 (2 : Int)))] [(0, .box [.d (.int .i64 v2), .d (.int .i64 v3), .d (.int .i64 v4), .d (.int .i64 v5)]), (1, .box [.d (.int .i64 v6), .d (.int .i64 v7), .d (.int .i64 v8), .d (.int .i64 v9)])] 2
noncomputable def rdparse_C1_3 (v0 : Bool) (v1 : Int) (v2 : Int) (v3 : Int) (v4 : Int) (v5 : Int) (v6 : Int) (v7 : Int) (v8 : Int) (v9 : Int) : ASt E := ASt.mk 87 [(4, .ptr 0 0), (5, .d (.bool v0)), (12, .ptr 1 0), (13, .d (.int .i64 v1)), (14, .d (.int .i64 (3 : Int)))] [(0, .box [.d (.int .i64 v2), .d (.int .i64 v3), .d (.int .i64 v4), .d (.int .i64 v5)]), (1, .box [.d (.int .i64 v6), .d (.int .i64 v7), .d (.int .i64 v8), .d (.int .i64 v9)])] 2
noncomputable def rdparse_C1_4 (v0 : Bool) (v1 : Int) (v2 : Int) (v3 : Int) (v4 : Int) (v5 : Int) (v6 : Int) (v7 : Int) (v8 : Int) (v9 : Int) : ASt E := ASt.mk 87 [(4, .ptr 0 0), (5, .d (.bool v0)), (12, .ptr 1 0), (13, .d (.int .i64 v1)), (14, .d (.int .i64 (4 : Int)))] [(0, .box [.d (.int .i64 v2), .d (.int .i64 v3), .d (.int .i64 v4), .d (.int .i64 v5)]), (1, .box [.d (.int .i64 v6), .d (.int .i64 v7), .d (.int .i64 v8), .d (.int .i64 v9)])] 2
noncomputable def rdparse_t (G : Nat → ASt E → Option (List (TV E))) (x0 : List UInt8) : Option (List (TV E)) :=
  bif ((x0.length : Int) == (0 : Int)) then some [⟨.int, (0 : Int)⟩, ⟨.api_Errno, (3 : Int)⟩] else G 0 (rdparse_C0 x0 false (-1 : Int) (0 : Int) (0 : Int) (0 : Int) (0 : Int))
theorem rdparse_e (G : Nat → ASt E → Option (List (TV E))) (x0 : List UInt8) : runE rdparse_O rdparse_H G Tryz.f98 [⟨.str, x0⟩] = rdparse_t G x0 := by kernel_rfl
noncomputable def rdparse_t0 (G : Nat → ASt E → Option (List (TV E))) (v0 : List UInt8) (v1 : Bool) (v2 : Int) (v3 : Int) (v4 : Int) (v5 : Int) (v6 : Int) : Option (List (TV E)) :=
  bif (decide ((0 : Int) < (v0.length : Int))) then (bif (okL1 v0) then (bif (bif (bif (!(rgroup_r3 v0)) then true else (decide ((rgroup_r1 v0) ≤ v2))) then true else (bif ((rgroup_r0 v0) == ([48] : List UInt8)) then (bif (decide ((0 : Int) ≤ v2)) then true else (decide ((0 : Int) < ((rgroup_r2 v0).length : Int)))) else false)) then some [⟨.int, (0 : Int)⟩, ⟨.api_Errno, (3 : Int)⟩] else (bif (okD (rgroup_r0 v0)) then (bif (decide ((1099511627776 : Int) < (rvalueV (rgroup_r0 v0)))) then (bif (rgroup_r1 v0) == (0 : Int) then G 0 (rdparse_C0 (rgroup_r2 v0) true (0 : Int) (0 : Int) v4 v5 v6) else (bif (rgroup_r1 v0) == (1 : Int) then G 0 (rdparse_C0 (rgroup_r2 v0) true (1 : Int) v3 (0 : Int) v5 v6) else (bif (rgroup_r1 v0) == (2 : Int) then G 0 (rdparse_C0 (rgroup_r2 v0) true (2 : Int) v3 v4 (0 : Int) v6) else (bif (rgroup_r1 v0) == (3 : Int) then G 0 (rdparse_C0 (rgroup_r2 v0) true (3 : Int) v3 v4 v5 (0 : Int)) else none)))) else (bif (rgroup_r1 v0) == (0 : Int) then G 0 (rdparse_C0 (rgroup_r2 v0) v1 (0 : Int) (rvalueV (rgroup_r0 v0)) v4 v5 v6) else (bif (rgroup_r1 v0) == (1 : Int) then G 0 (rdparse_C0 (rgroup_r2 v0) v1 (1 : Int) v3 (rvalueV (rgroup_r0 v0)) v5 v6) else (bif (rgroup_r1 v0) == (2 : Int) then G 0 (rdparse_C0 (rgroup_r2 v0) v1 (2 : Int) v3 v4 (rvalueV (rgroup_r0 v0)) v6) else (bif (rgroup_r1 v0) == (3 : Int) then G 0 (rdparse_C0 (rgroup_r2 v0) v1 (3 : Int) v3 v4 v5 (rvalueV (rgroup_r0 v0))) else none))))) else none)) else none) else G 1 (rdparse_C1_0 v1 (0 : Int) v3 v4 v5 v6 longsV.e0 longsV.e1 longsV.e2 longsV.e3)
theorem rdparse_l0 (G : Nat → ASt E → Option (List (TV E))) (v0 : List UInt8) (v1 : Bool) (v2 : Int) (v3 : Int) (v4 : Int) (v5 : Int) (v6 : Int) : runL rdparse_O rdparse_H G Tryz.f98 0 (rdparse_C0 v0 v1 v2 v3 v4 v5 v6) = rdparse_t0 G v0 v1 v2 v3 v4 v5 v6 := by kernel_rfl
noncomputable def rdparse_t1_0 (G : Nat → ASt E → Option (List (TV E))) (v0 : Bool) (v1 : Int) (v2 : Int) (v3 : Int) (v4 : Int) (v5 : Int) (v6 : Int) (v7 : Int) (v8 : Int) (v9 : Int) : Option (List (TV E)) :=
  bif (!(v6 == (0 : Int))) then (bif (decide ((w64 (Int.tdiv (1099511627776 : Int) v6)) < v2)) then (bif (!true) then G 1 (rdparse_C1_1 true (w64 (v1 + (w64 (v2 * v6)))) v2 v3 v4 v5 v6 v7 v8 v9) else G 1 (rdparse_C1_1 true v1 v2 v3 v4 v5 v6 v7 v8 v9)) else (bif (!v0) then G 1 (rdparse_C1_1 v0 (w64 (v1 + (w64 (v2 * v6)))) v2 v3 v4 v5 v6 v7 v8 v9) else G 1 (rdparse_C1_1 v0 v1 v2 v3 v4 v5 v6 v7 v8 v9))) else none
theorem rdparse_l1_0 (G : Nat → ASt E → Option (List (TV E))) (v0 : Bool) (v1 : Int) (v2 : Int) (v3 : Int) (v4 : Int) (v5 : Int) (v6 : Int) (v7 : Int) (v8 : Int) (v9 : Int) : runL rdparse_O rdparse_H G Tryz.f98 1 (rdparse_C1_0 v0 v1 v2 v3 v4 v5 v6 v7 v8 v9) = rdparse_t1_0 G v0 v1 v2 v3 v4 v5 v6 v7 v8 v9 := by kernel_rfl
noncomputable def rdparse_t1_1 (G : Nat → ASt E → Option (List (TV E))) (v0 : Bool) (v1 : Int) (v2 : Int) (v3 : Int) (v4 : Int) (v5 : Int) (v6 : Int) (v7 : Int) (v8 : Int) (v9 : Int) : Option (List (TV E)) :=
  bif (!(v7 == (0 : Int))) then (bif (decide ((w64 (Int.tdiv (1099511627776 : Int) v7)) < v3)) then (bif (!true) then G 1 (rdparse_C1_2 true (w64 (v1 + (w64 (v3 * v7)))) v2 v3 v4 v5 v6 v7 v8 v9) else G 1 (rdparse_C1_2 true v1 v2 v3 v4 v5 v6 v7 v8 v9)) else (bif (!v0) then G 1 (rdparse_C1_2 v0 (w64 (v1 + (w64 (v3 * v7)))) v2 v3 v4 v5 v6 v7 v8 v9) else G 1 (rdparse_C1_2 v0 v1 v2 v3 v4 v5 v6 v7 v8 v9))) else none
theorem rdparse_l1_1 (G : Nat → ASt E → Option (List (TV E))) (v0 : Bool) (v1 : Int) (v2 : Int) (v3 : Int) (v4 : Int) (v5 : Int) (v6 : Int) (v7 : Int) (v8 : Int) (v9 : Int) : runL rdparse_O rdparse_H G Tryz.f98 1 (rdparse_C1_1 v0 v1 v2 v3 v4 v5 v6 v7 v8 v9) = rdparse_t1_1 G v0 v1 v2 v3 v4 v5 v6 v7 v8 v9 := by kernel_rfl
noncomputable def rdparse_t1_2 (G : Nat → ASt E → Option (List (TV E))) (v0 : Bool) (v1 : Int) (v2 : Int) (v3 : Int) (v4 : Int) (v5 : Int) (v6 : Int) (v7 : Int) (v8 : Int) (v9 : Int) : Option (List (TV E)) :=
  bif (!(v8 == (0 : Int))) then (bif (decide ((w64 (Int.tdiv (1099511627776 : Int) v8)) < v4)) then (bif (!true) then G 1 (rdparse_C1_3 true (w64 (v1 + (w64 (v4 * v8)))) v2 v3 v4 v5 v6 v7 v8 v9) else G 1 (rdparse_C1_3 true v1 v2 v3 v4 v5 v6 v7 v8 v9)) else (bif (!v0) then G 1 (rdparse_C1_3 v0 (w64 (v1 + (w64 (v4 * v8)))) v2 v3 v4 v5 v6 v7 v8 v9) else G 1 (rdparse_C1_3 v0 v1 v2 v3 v4 v5 v6 v7 v8 v9))) else none
theorem rdparse_l1_2 (G : Nat → ASt E → Option (List (TV E))) (v0 : Bool) (v1 : Int) (v2 : Int) (v3 : Int) (v4 : Int) (v5 : Int) (v6 : Int) (v7 : Int) (v8 : Int) (v9 : Int) : runL rdparse_O rdparse_H G Tryz.f98 1 (rdparse_C1_2 v0 v1 v2 v3 v4 v5 v6 v7 v8 v9) = rdparse_t1_2 G v0 v1 v2 v3 v4 v5 v6 v7 v8 v9 := by kernel_rfl
noncomputable def rdparse_t1_3 (G : Nat → ASt E → Option (List (TV E))) (v0 : Bool) (v1 : Int) (v2 : Int) (v3 : Int) (v4 : Int) (v5 : Int) (v6 : Int) (v7 : Int) (v8 : Int) (v9 : Int) : Option (List (TV E)) :=
  bif (!(v9 == (0 : Int))) then (bif (decide ((w64 (Int.tdiv (1099511627776 : Int) v9)) < v5)) then (bif (!true) then G 1 (rdparse_C1_4 true (w64 (v1 + (w64 (v5 * v9)))) v2 v3 v4 v5 v6 v7 v8 v9) else G 1 (rdparse_C1_4 true v1 v2 v3 v4 v5 v6 v7 v8 v9)) else (bif (!v0) then G 1 (rdparse_C1_4 v0 (w64 (v1 + (w64 (v5 * v9)))) v2 v3 v4 v5 v6 v7 v8 v9) else G 1 (rdparse_C1_4 v0 v1 v2 v3 v4 v5 v6 v7 v8 v9))) else none
theorem rdparse_l1_3 (G : Nat → ASt E → Option (List (TV E))) (v0 : Bool) (v1 : Int) (v2 : Int) (v3 : Int) (v4 : Int) (v5 : Int) (v6 : Int) (v7 : Int) (v8 : Int) (v9 : Int) : runL rdparse_O rdparse_H G Tryz.f98 1 (rdparse_C1_3 v0 v1 v2 v3 v4 v5 v6 v7 v8 v9) = rdparse_t1_3 G v0 v1 v2 v3 v4 v5 v6 v7 v8 v9 := by kernel_rfl
noncomputable def rdparse_t1_4 (_G : Nat → ASt E → Option (List (TV E))) (v0 : Bool) (v1 : Int) (_v2 : Int) (_v3 : Int) (_v4 : Int) (_v5 : Int) (_v6 : Int) (_v7 : Int) (_v8 : Int) (_v9 : Int) : Option (List (TV E)) :=
  bif (bif v0 then true else (decide ((1099511627776 : Int) < v1))) then some [⟨.int, (0 : Int)⟩, ⟨.api_Errno, (9 : Int)⟩] else some [⟨.int, v1⟩, ⟨.api_Errno, (0 : Int)⟩]
theorem rdparse_l1_4 (G : Nat → ASt E → Option (List (TV E))) (v0 : Bool) (v1 : Int) (v2 : Int) (v3 : Int) (v4 : Int) (v5 : Int) (v6 : Int) (v7 : Int) (v8 : Int) (v9 : Int) : runL rdparse_O rdparse_H G Tryz.f98 1 (rdparse_C1_4 v0 v1 v2 v3 v4 v5 v6 v7 v8 v9) = rdparse_t1_4 G v0 v1 v2 v3 v4 v5 v6 v7 v8 v9 := by kernel_rfl
theorem rdparse_f : Tryz.prog.funcs[98]? = some Tryz.f98 := by kernel_rfl
theorem rdparse_n : (Tryz.f98.name == "runtime.NumGoroutine") = false := by kernel_rfl
theorem rdparse_b : Tryz.f98.body.isNone = false := by kernel_rfl
theorem rdparse_ex : ∃ fn, Tryz.prog.funcs[98]? = some fn ∧ (fn.name == "runtime.NumGoroutine") = false ∧ fn.body.isNone = false := ⟨Tryz.f98, rdparse_f, rdparse_n, rdparse_b⟩
theorem rdparse_hO : OracleOk E rdparse_O := orac_ok (.cons rvalue_ok (.cons rgroup_ok (.cons rlongs_ok .nil))) .nil .nil .nil
theorem rdparse_s0 {res : List (TV E)} {v0 : List UInt8} {v1 : Bool} {v2 : Int} {v3 : Int} {v4 : Int} {v5 : Int} {v6 : Int} (h : rdparse_t0 (Gr E Tryz.f98 res) v0 v1 v2 v3 v4 v5 v6 = some res) : Ev E Tryz.f98 res 0 (rdparse_C0 v0 v1 v2 v3 v4 v5 v6) := Ev.step rdparse_hO mix ((rdparse_l0 _ v0 v1 v2 v3 v4 v5 v6).trans h)
theorem rdparse_s1_0 {res : List (TV E)} {v0 : Bool} {v1 : Int} {v2 : Int} {v3 : Int} {v4 : Int} {v5 : Int} {v6 : Int} {v7 : Int} {v8 : Int} {v9 : Int} (h : rdparse_t1_0 (Gr E Tryz.f98 res) v0 v1 v2 v3 v4 v5 v6 v7 v8 v9 = some res) : Ev E Tryz.f98 res 1 (rdparse_C1_0 v0 v1 v2 v3 v4 v5 v6 v7 v8 v9) := Ev.step rdparse_hO mix ((rdparse_l1_0 _ v0 v1 v2 v3 v4 v5 v6 v7 v8 v9).trans h)
theorem rdparse_s1_1 {res : List (TV E)} {v0 : Bool} {v1 : Int} {v2 : Int} {v3 : Int} {v4 : Int} {v5 : Int} {v6 : Int} {v7 : Int} {v8 : Int} {v9 : Int} (h : rdparse_t1_1 (Gr E Tryz.f98 res) v0 v1 v2 v3 v4 v5 v6 v7 v8 v9 = some res) : Ev E Tryz.f98 res 1 (rdparse_C1_1 v0 v1 v2 v3 v4 v5 v6 v7 v8 v9) := Ev.step rdparse_hO mix ((rdparse_l1_1 _ v0 v1 v2 v3 v4 v5 v6 v7 v8 v9).trans h)
theorem rdparse_s1_2 {res : List (TV E)} {v0 : Bool} {v1 : Int} {v2 : Int} {v3 : Int} {v4 : Int} {v5 : Int} {v6 : Int} {v7 : Int} {v8 : Int} {v9 : Int} (h : rdparse_t1_2 (Gr E Tryz.f98 res) v0 v1 v2 v3 v4 v5 v6 v7 v8 v9 = some res) : Ev E Tryz.f98 res 1 (rdparse_C1_2 v0 v1 v2 v3 v4 v5 v6 v7 v8 v9) := Ev.step rdparse_hO mix ((rdparse_l1_2 _ v0 v1 v2 v3 v4 v5 v6 v7 v8 v9).trans h)
theorem rdparse_s1_3 {res : List (TV E)} {v0 : Bool} {v1 : Int} {v2 : Int} {v3 : Int} {v4 : Int} {v5 : Int} {v6 : Int} {v7 : Int} {v8 : Int} {v9 : Int} (h : rdparse_t1_3 (Gr E Tryz.f98 res) v0 v1 v2 v3 v4 v5 v6 v7 v8 v9 = some res) : Ev E Tryz.f98 res 1 (rdparse_C1_3 v0 v1 v2 v3 v4 v5 v6 v7 v8 v9) := Ev.step rdparse_hO mix ((rdparse_l1_3 _ v0 v1 v2 v3 v4 v5 v6 v7 v8 v9).trans h)
theorem rdparse_s1_4 {res : List (TV E)} {v0 : Bool} {v1 : Int} {v2 : Int} {v3 : Int} {v4 : Int} {v5 : Int} {v6 : Int} {v7 : Int} {v8 : Int} {v9 : Int} (h : rdparse_t1_4 (Gr E Tryz.f98 res) v0 v1 v2 v3 v4 v5 v6 v7 v8 v9 = some res) : Ev E Tryz.f98 res 1 (rdparse_C1_4 v0 v1 v2 v3 v4 v5 v6 v7 v8 v9) := Ev.step rdparse_hO mix ((rdparse_l1_4 _ v0 v1 v2 v3 v4 v5 v6 v7 v8 v9).trans h)
def rdparse_any (x0 : List UInt8) (p : Int × Int) : Prop := rdparse_t (Gr E Tryz.f98 [⟨.int, p.1⟩, ⟨.api_Errno, p.2⟩]) x0 = some [⟨.int, p.1⟩, ⟨.api_Errno, p.2⟩]
noncomputable def rdparse_p (x0 : List UInt8) : Int × Int := @Classical.epsilon _ ⟨(dflt .int, dflt .api_Errno)⟩ (rdparse_any x0)
noncomputable def rdparse_r0 (x0 : List UInt8) : Int := (rdparse_p x0).1
noncomputable def rdparse_r1 (x0 : List UInt8) : Int := (rdparse_p x0).2
theorem rdparse_spec (x0 : List UInt8) (h : ∃ p, rdparse_any x0 p) : rdparse_any x0 (rdparse_p x0) := Classical.epsilon_spec h
noncomputable def rdparse_W : FnW E := fn12 (E := E) .str .int .api_Errno okL1 rdparse_r0 rdparse_r1
def rdparse_id : FuncId := 98
theorem rdparse_ok_of (h : ∀ (x0 : List UInt8), okL1 x0 = true → rdparse_t (Gr E Tryz.f98 [⟨.int, rdparse_r0 x0⟩, ⟨.api_Errno, rdparse_r1 x0⟩]) x0 = some [⟨.int, rdparse_r0 x0⟩, ⟨.api_Errno, rdparse_r1 x0⟩]) : FnOk E rdparse_id rdparse_W := fn12_ok rdparse_hO mix rdparse_f rdparse_n rdparse_b (fun x0 hk => (rdparse_e _ x0).trans (h x0 hk))
theorem rdparse_1 (v0 : Bool) (v1 v2 v3 v4 v5 : Int) : ∃ p : Int × Int, True ∧ Ev E Tryz.f98 [⟨.int, p.1⟩, ⟨.api_Errno, p.2⟩] 1 (rdparse_C1_0 v0 v1 v2 v3 v4 v5 3600000 60000 1000 1) := by
  have h4 : ∀ b x, ∃ p : Int × Int, True ∧ Ev E Tryz.f98 [⟨.int, p.1⟩, ⟨.api_Errno, p.2⟩] 1 (rdparse_C1_4 b x v2 v3 v4 v5 3600000 60000 1000 1) := fun b x => by
    refine anyS (fun _ h => rdparse_s1_4 h) ?_
    simp only [rdparse_t1_4]
    cases (bif b then true else decide ((1099511627776 : Int) < x)) <;> exact ⟨(_, _), trivial, rfl⟩
  have h3 : ∀ b x, ∃ p : Int × Int, True ∧ Ev E Tryz.f98 [⟨.int, p.1⟩, ⟨.api_Errno, p.2⟩] 1 (rdparse_C1_3 b x v2 v3 v4 v5 3600000 60000 1000 1) := fun b x => by
    refine anyS (fun _ h => rdparse_s1_3 h) ?_
    simp only [rdparse_t1_3, show (!((1 : Int) == 0)) = true from rfl, cond_true]
    cases decide (w64 (Int.tdiv 1099511627776 1) < v5) <;> cases b <;> exact anyS (fun _ h => Gr_of h) (h4 _ _)
  have h2 : ∀ b x, ∃ p : Int × Int, True ∧ Ev E Tryz.f98 [⟨.int, p.1⟩, ⟨.api_Errno, p.2⟩] 1 (rdparse_C1_2 b x v2 v3 v4 v5 3600000 60000 1000 1) := fun b x => by
    refine anyS (fun _ h => rdparse_s1_2 h) ?_
    simp only [rdparse_t1_2, show (!((1000 : Int) == 0)) = true from rfl, cond_true]
    cases decide (w64 (Int.tdiv 1099511627776 1000) < v4) <;> cases b <;> exact anyS (fun _ h => Gr_of h) (h3 _ _)
  have h1 : ∀ b x, ∃ p : Int × Int, True ∧ Ev E Tryz.f98 [⟨.int, p.1⟩, ⟨.api_Errno, p.2⟩] 1 (rdparse_C1_1 b x v2 v3 v4 v5 3600000 60000 1000 1) := fun b x => by
    refine anyS (fun _ h => rdparse_s1_1 h) ?_
    simp only [rdparse_t1_1, show (!((60000 : Int) == 0)) = true from rfl, cond_true]
    cases decide (w64 (Int.tdiv 1099511627776 60000) < v3) <;> cases b <;> exact anyS (fun _ h => Gr_of h) (h2 _ _)
  refine anyS (fun _ h => rdparse_s1_0 h) ?_
  simp only [rdparse_t1_0, show (!((3600000 : Int) == 0)) = true from rfl, cond_true]
  cases decide (w64 (Int.tdiv 1099511627776 3600000) < v2) <;> cases v0 <;> exact anyS (fun _ h => Gr_of h) (h1 _ _)
theorem rdparse_0 : ∀ (m : Nat) (s : List UInt8) (v1 : Bool) (v2 v3 v4 v5 v6 : Int), s.length ≤ m → s.length ≤ 1000000 →
    ∃ p : Int × Int, True ∧ Ev E Tryz.f98 [⟨.int, p.1⟩, ⟨.api_Errno, p.2⟩] 0 (rdparse_C0 s v1 v2 v3 v4 v5 v6) := by
  intro m
  induction m with
  | zero =>
    intro s v1 v2 v3 v4 v5 v6 h1 h2
    refine anyS (fun _ h => rdparse_s0 h) ?_
    simp only [rdparse_t0, dF (show ¬ (0 : Int) < (s.length : Int) by omega), cond_false]
    exact anyS (fun _ h => Gr_of h) (rdparse_1 v1 0 v3 v4 v5 v6)
  | succ m ih =>
    intro s v1 v2 v3 v4 v5 v6 h1 h2
    refine anyS (fun _ h => rdparse_s0 h) ?_
    by_cases h0 : (0 : Int) < (s.length : Int)
    · obtain ⟨⟨u0, u3⟩, hp⟩ := rgroup_pr s h2
      change 0 ≤ rgroup_r1 s at u0
      change rgroup_r1 s ≤ 3 at u3
      simp only [rdparse_t0, dT h0, cond_true, okL1_iff.2 h2]
      cases hb : rgroup_r3 s with
      | false => exact ⟨(_, _), trivial, rfl⟩
      | true =>
        obtain ⟨⟨q1, q2⟩, q3⟩ := hp hb
        change (rgroup_r0 s).length ≤ s.length at q1
        change (rgroup_r0 s).all isD = true at q2
        change (rgroup_r2 s).length < s.length at q3
        have o1 : okD (rgroup_r0 s) = true := okD_iff.2 ⟨by omega, q2⟩
        have hr := fun a b c d e f => ih (rgroup_r2 s) a b c d e f (by omega) (by omega)
        simp only [Bool.not_true, cond_false, o1, cond_true]
        generalize rgroup_r1 s = u at *
        cases (bif decide (u ≤ v2) then true else bif rgroup_r0 s == [48] then (bif decide (0 ≤ v2) then true else decide ((0 : Int) < ((rgroup_r2 s).length : Int))) else false) with
        | true => exact ⟨(_, _), trivial, rfl⟩
        | false =>
          simp only [cond_false]
          obtain rfl | rfl | rfl | rfl : u = 0 ∨ u = 1 ∨ u = 2 ∨ u = 3 := by omega
          all_goals cases decide ((1099511627776 : Int) < rvalueV (rgroup_r0 s)) <;> exact anyS (fun _ h => Gr_of h) (hr _ _ _ _ _ _)
    · simp only [rdparse_t0, dF h0, cond_false]
      exact anyS (fun _ h => Gr_of h) (rdparse_1 v1 0 v3 v4 v5 v6)
theorem rdparse_ok : FnOk E rdparse_id rdparse_W := rdparse_ok_of fun s hk => by
  have : ∃ p, rdparse_any s p := by
    unfold rdparse_any
    simp only [rdparse_t]
    cases ((s.length : Int) == 0) with
    | true => exact ⟨(_, _), rfl⟩
    | false =>
      obtain ⟨p, _, hp⟩ := rdparse_0 s.length s false (-1) 0 0 0 0 (Nat.le_refl _) (okL1_iff.1 hk)
      exact ⟨p, Gr_of hp⟩
  exact rdparse_spec s this
noncomputable def rdtext_O : Oracle E := orac [(74, rtext_W), (113, rlongs_W), (114, rnames_W)] [] [] []
noncomputable def rdtext_H : Hint E := Hint.mk [(0, [0, 3, 4, 5, 6])] [] [] [] []
noncomputable def rdtext_C0_0 (v0 : Int) (v1 : List UInt8) (v2 : Int) (v3 : Int) (v4 : Int) (v5 : Int) (v6 : List UInt8) (v7 : List UInt8) (v8 : List UInt8) (v9 : List UInt8) : ASt E := ASt.mk 45 [(0, .d (.int .i64 v0)), (3, .d (.str v1)), (4, .ptr 0 0), (5, .ptr 1 0), (6, .d (.int .i64 (0 : Int)))] [(0, .box [.d (.int .i64 v2), .d (.int .i64 v3), .d (.int .i64 v4), .d (.int .i64 v5)]), (1, .box [.d (.str v6), .d (.str v7), .d (.str v8), .d (.str v9)])] 2
noncomputable def rdtext_C0_1 (v0 : Int) (v1 : List UInt8) (v2 : Int) (v3 : Int) (v4 : Int) (v5 : Int) (v6 : List UInt8) (v7 : List UInt8) (v8 : List UInt8) (v9 : List UInt8) : ASt E := ASt.mk 45 [(0, .d (.int .i64 v0)), (3, .d (.str v1)), (4, .ptr 0 0), (5, .ptr 1 0), (6, .d (.int .i64 (1 : Int)))] [(0, .box [.d (.int .i64 v2), .d (.int .i64 v3), .d (.int .i64 v4), .d (.int .i64 v5)]), (1, .box [.d (.str v6), .d (.str v7), .d (.str v8), .d (.str v9)])] 2
noncomputable def rdtext_C0_2 (v0 : Int) (v1 : List UInt8) (v2 : Int) (v3 : Int) (v4 : Int) (v5 : Int) (v6 : List UInt8) (v7 : List UInt8) (v8 : List UInt8) (v9 : List UInt8) : ASt E := ASt.mk 45 [(0, .d (.int .i64 v0)), (3, .d (.str v1)), (4, .ptr 0 0), (5, .ptr 1 0), (6, .d (.int .i64 (2 : Int)))] [(0, .box [.d (.int .i64 v2), .d (.int .i64 v3), .d (.int .i64 v4), .d (.int .i64 v5)]), (1, .box [.d (.str v6), .d (.str v7), .d (.str v8), .d (.str v9)])] 2
noncomputable def rdtext_C0_3 (v0 : Int) (v1 : List UInt8) (v2 : Int) (v3 : Int) (v4 : Int) (v5 : Int) (v6 : List UInt8) (v7 : List UInt8) (v8 : List UInt8) (v9 : List UInt8) : ASt E := ASt.mk 45 [(0, .d (.int .i64 v0)), (3, .d (.str v1)), (4, .ptr 0 0), (5, .ptr 1 0), (6, .d (.int .i64 (3 : Int)))] [(0, .box [.d (.int .i64 v2), .d (.int .i64 v3), .d (.int .i64 v4), .d (.int .i64 v5)]), (1, .box [.d (.str v6), .d (.str v7), .d (.str v8), .d (.str v9)])] 2
noncomputable def rdtext_C0_4 (v0 : Int) (v1 : List UInt8) (v2 : Int) (v3 : Int) (v4 : Int) (v5 : Int) (v6 : List UInt8) (v7 : List UInt8) (v8 : List UInt8) (v9 : List UInt8) : ASt E := ASt.mk 45 [(0, .d (.int .i64 v0)), (3, .d (.str v1)), (4, .ptr 0 0), (5, .ptr 1 0), (6, .d (.int .i64 (4 : Int)))] [(0, .box [.d (.int .i64 v2), .d (.int .i64 v3), .d (.int .i64 v4), .d (.int .i64 v5)]), (1, .box [.d (.str v6), .d (.str v7), .d (.str v8), .d (.str v9)])] 2
noncomputable def rdtext_t (G : Nat → ASt E → Option (List (TV E))) (x0 : Int) : Option (List (TV E)) :=
  bif (bif (decide (x0 < (0 : Int))) then true else (decide ((1099511627776 : Int) < x0))) then some [⟨.str, ([] : List UInt8)⟩] else (bif (x0 == (0 : Int)) then some [⟨.str, ([48, 115] : List UInt8)⟩] else G 0 (rdtext_C0_0 x0 ([] : List UInt8) longsV.e0 longsV.e1 longsV.e2 longsV.e3 namesV.e0 namesV.e1 namesV.e2 namesV.e3))
theorem rdtext_e (G : Nat → ASt E → Option (List (TV E))) (x0 : Int) : runE rdtext_O rdtext_H G Tryz.f99 [⟨.int, x0⟩] = rdtext_t G x0 := by kernel_rfl
noncomputable def rdtext_t0_0 (G : Nat → ASt E → Option (List (TV E))) (v0 : Int) (v1 : List UInt8) (v2 : Int) (v3 : Int) (v4 : Int) (v5 : Int) (v6 : List UInt8) (v7 : List UInt8) (v8 : List UInt8) (v9 : List UInt8) : Option (List (TV E)) :=
  bif (!(v2 == (0 : Int))) then (bif (decide ((0 : Int) < (w64 (Int.tdiv v0 v2)))) then (bif (!(v2 == (0 : Int))) then (bif (okI (w64 (Int.tdiv v0 v2))) then (bif (decide (v1.length + (textV (w64 (Int.tdiv v0 v2))).length ≤ maxStr)) then (bif (decide ((v1 ++ (textV (w64 (Int.tdiv v0 v2)))).length + v6.length ≤ maxStr)) then (bif (!(v2 == (0 : Int))) then G 0 (rdtext_C0_1 (Int.tmod v0 v2) ((v1 ++ (textV (w64 (Int.tdiv v0 v2)))) ++ v6) v2 v3 v4 v5 v6 v7 v8 v9) else none) else none) else none) else none) else none) else (bif (!(v2 == (0 : Int))) then G 0 (rdtext_C0_1 (Int.tmod v0 v2) v1 v2 v3 v4 v5 v6 v7 v8 v9) else none)) else none
theorem rdtext_l0_0 (G : Nat → ASt E → Option (List (TV E))) (v0 : Int) (v1 : List UInt8) (v2 : Int) (v3 : Int) (v4 : Int) (v5 : Int) (v6 : List UInt8) (v7 : List UInt8) (v8 : List UInt8) (v9 : List UInt8) : runL rdtext_O rdtext_H G Tryz.f99 0 (rdtext_C0_0 v0 v1 v2 v3 v4 v5 v6 v7 v8 v9) = rdtext_t0_0 G v0 v1 v2 v3 v4 v5 v6 v7 v8 v9 := by kernel_rfl
noncomputable def rdtext_t0_1 (G : Nat → ASt E → Option (List (TV E))) (v0 : Int) (v1 : List UInt8) (v2 : Int) (v3 : Int) (v4 : Int) (v5 : Int) (v6 : List UInt8) (v7 : List UInt8) (v8 : List UInt8) (v9 : List UInt8) : Option (List (TV E)) :=
  bif (!(v3 == (0 : Int))) then (bif (decide ((0 : Int) < (w64 (Int.tdiv v0 v3)))) then (bif (!(v3 == (0 : Int))) then (bif (okI (w64 (Int.tdiv v0 v3))) then (bif (decide (v1.length + (textV (w64 (Int.tdiv v0 v3))).length ≤ maxStr)) then (bif (decide ((v1 ++ (textV (w64 (Int.tdiv v0 v3)))).length + v7.length ≤ maxStr)) then (bif (!(v3 == (0 : Int))) then G 0 (rdtext_C0_2 (Int.tmod v0 v3) ((v1 ++ (textV (w64 (Int.tdiv v0 v3)))) ++ v7) v2 v3 v4 v5 v6 v7 v8 v9) else none) else none) else none) else none) else none) else (bif (!(v3 == (0 : Int))) then G 0 (rdtext_C0_2 (Int.tmod v0 v3) v1 v2 v3 v4 v5 v6 v7 v8 v9) else none)) else none
theorem rdtext_l0_1 (G : Nat → ASt E → Option (List (TV E))) (v0 : Int) (v1 : List UInt8) (v2 : Int) (v3 : Int) (v4 : Int) (v5 : Int) (v6 : List UInt8) (v7 : List UInt8) (v8 : List UInt8) (v9 : List UInt8) : runL rdtext_O rdtext_H G Tryz.f99 0 (rdtext_C0_1 v0 v1 v2 v3 v4 v5 v6 v7 v8 v9) = rdtext_t0_1 G v0 v1 v2 v3 v4 v5 v6 v7 v8 v9 := by kernel_rfl
noncomputable def rdtext_t0_2 (G : Nat → ASt E → Option (List (TV E))) (v0 : Int) (v1 : List UInt8) (v2 : Int) (v3 : Int) (v4 : Int) (v5 : Int) (v6 : List UInt8) (v7 : List UInt8) (v8 : List UInt8) (v9 : List UInt8) : Option (List (TV E)) :=
  bif (!(v4 == (0 : Int))) then (bif (decide ((0 : Int) < (w64 (Int.tdiv v0 v4)))) then (bif (!(v4 == (0 : Int))) then (bif (okI (w64 (Int.tdiv v0 v4))) then (bif (decide (v1.length + (textV (w64 (Int.tdiv v0 v4))).length ≤ maxStr)) then (bif (decide ((v1 ++ (textV (w64 (Int.tdiv v0 v4)))).length + v8.length ≤ maxStr)) then (bif (!(v4 == (0 : Int))) then G 0 (rdtext_C0_3 (Int.tmod v0 v4) ((v1 ++ (textV (w64 (Int.tdiv v0 v4)))) ++ v8) v2 v3 v4 v5 v6 v7 v8 v9) else none) else none) else none) else none) else none) else (bif (!(v4 == (0 : Int))) then G 0 (rdtext_C0_3 (Int.tmod v0 v4) v1 v2 v3 v4 v5 v6 v7 v8 v9) else none)) else none
theorem rdtext_l0_2 (G : Nat → ASt E → Option (List (TV E))) (v0 : Int) (v1 : List UInt8) (v2 : Int) (v3 : Int) (v4 : Int) (v5 : Int) (v6 : List UInt8) (v7 : List UInt8) (v8 : List UInt8) (v9 : List UInt8) : runL rdtext_O rdtext_H G Tryz.f99 0 (rdtext_C0_2 v0 v1 v2 v3 v4 v5 v6 v7 v8 v9) = rdtext_t0_2 G v0 v1 v2 v3 v4 v5 v6 v7 v8 v9 := by kernel_rfl
noncomputable def rdtext_t0_3 (G : Nat → ASt E → Option (List (TV E))) (v0 : Int) (v1 : List UInt8) (v2 : Int) (v3 : Int) (v4 : Int) (v5 : Int) (v6 : List UInt8) (v7 : List UInt8) (v8 : List UInt8) (v9 : List UInt8) : Option (List (TV E)) :=
  bif (!(v5 == (0 : Int))) then (bif (decide ((0 : Int) < (w64 (Int.tdiv v0 v5)))) then (bif (!(v5 == (0 : Int))) then (bif (okI (w64 (Int.tdiv v0 v5))) then (bif (decide (v1.length + (textV (w64 (Int.tdiv v0 v5))).length ≤ maxStr)) then (bif (decide ((v1 ++ (textV (w64 (Int.tdiv v0 v5)))).length + v9.length ≤ maxStr)) then (bif (!(v5 == (0 : Int))) then G 0 (rdtext_C0_4 (Int.tmod v0 v5) ((v1 ++ (textV (w64 (Int.tdiv v0 v5)))) ++ v9) v2 v3 v4 v5 v6 v7 v8 v9) else none) else none) else none) else none) else none) else (bif (!(v5 == (0 : Int))) then G 0 (rdtext_C0_4 (Int.tmod v0 v5) v1 v2 v3 v4 v5 v6 v7 v8 v9) else none)) else none
theorem rdtext_l0_3 (G : Nat → ASt E → Option (List (TV E))) (v0 : Int) (v1 : List UInt8) (v2 : Int) (v3 : Int) (v4 : Int) (v5 : Int) (v6 : List UInt8) (v7 : List UInt8) (v8 : List UInt8) (v9 : List UInt8) : runL rdtext_O rdtext_H G Tryz.f99 0 (rdtext_C0_3 v0 v1 v2 v3 v4 v5 v6 v7 v8 v9) = rdtext_t0_3 G v0 v1 v2 v3 v4 v5 v6 v7 v8 v9 := by kernel_rfl
noncomputable def rdtext_t0_4 (_G : Nat → ASt E → Option (List (TV E))) (_v0 : Int) (v1 : List UInt8) (_v2 : Int) (_v3 : Int) (_v4 : Int) (_v5 : Int) (_v6 : List UInt8) (_v7 : List UInt8) (_v8 : List UInt8) (_v9 : List UInt8) : Option (List (TV E)) :=
  some [⟨.str, v1⟩]
theorem rdtext_l0_4 (G : Nat → ASt E → Option (List (TV E))) (v0 : Int) (v1 : List UInt8) (v2 : Int) (v3 : Int) (v4 : Int) (v5 : Int) (v6 : List UInt8) (v7 : List UInt8) (v8 : List UInt8) (v9 : List UInt8) : runL rdtext_O rdtext_H G Tryz.f99 0 (rdtext_C0_4 v0 v1 v2 v3 v4 v5 v6 v7 v8 v9) = rdtext_t0_4 G v0 v1 v2 v3 v4 v5 v6 v7 v8 v9 := by kernel_rfl
theorem rdtext_f : Tryz.prog.funcs[99]? = some Tryz.f99 := by kernel_rfl
theorem rdtext_n : (Tryz.f99.name == "runtime.NumGoroutine") = false := by kernel_rfl
theorem rdtext_b : Tryz.f99.body.isNone = false := by kernel_rfl
theorem rdtext_ex : ∃ fn, Tryz.prog.funcs[99]? = some fn ∧ (fn.name == "runtime.NumGoroutine") = false ∧ fn.body.isNone = false := ⟨Tryz.f99, rdtext_f, rdtext_n, rdtext_b⟩
theorem rdtext_hO : OracleOk E rdtext_O := orac_ok (.cons rtext_ok (.cons rlongs_ok (.cons rnames_ok .nil))) .nil .nil .nil
theorem rdtext_s0_0 {res : List (TV E)} {v0 : Int} {v1 : List UInt8} {v2 : Int} {v3 : Int} {v4 : Int} {v5 : Int} {v6 : List UInt8} {v7 : List UInt8} {v8 : List UInt8} {v9 : List UInt8} (h : rdtext_t0_0 (Gr E Tryz.f99 res) v0 v1 v2 v3 v4 v5 v6 v7 v8 v9 = some res) : Ev E Tryz.f99 res 0 (rdtext_C0_0 v0 v1 v2 v3 v4 v5 v6 v7 v8 v9) := Ev.step rdtext_hO mix ((rdtext_l0_0 _ v0 v1 v2 v3 v4 v5 v6 v7 v8 v9).trans h)
theorem rdtext_s0_1 {res : List (TV E)} {v0 : Int} {v1 : List UInt8} {v2 : Int} {v3 : Int} {v4 : Int} {v5 : Int} {v6 : List UInt8} {v7 : List UInt8} {v8 : List UInt8} {v9 : List UInt8} (h : rdtext_t0_1 (Gr E Tryz.f99 res) v0 v1 v2 v3 v4 v5 v6 v7 v8 v9 = some res) : Ev E Tryz.f99 res 0 (rdtext_C0_1 v0 v1 v2 v3 v4 v5 v6 v7 v8 v9) := Ev.step rdtext_hO mix ((rdtext_l0_1 _ v0 v1 v2 v3 v4 v5 v6 v7 v8 v9).trans h)
theorem rdtext_s0_2 {res : List (TV E)} {v0 : Int} {v1 : List UInt8} {v2 : Int} {v3 : Int} {v4 : Int} {v5 : Int} {v6 : List UInt8} {v7 : List UInt8} {v8 : List UInt8} {v9 : List UInt8} (h : rdtext_t0_2 (Gr E Tryz.f99 res) v0 v1 v2 v3 v4 v5 v6 v7 v8 v9 = some res) : Ev E Tryz.f99 res 0 (rdtext_C0_2 v0 v1 v2 v3 v4 v5 v6 v7 v8 v9) := Ev.step rdtext_hO mix ((rdtext_l0_2 _ v0 v1 v2 v3 v4 v5 v6 v7 v8 v9).trans h)
theorem rdtext_s0_3 {res : List (TV E)} {v0 : Int} {v1 : List UInt8} {v2 : Int} {v3 : Int} {v4 : Int} {v5 : Int} {v6 : List UInt8} {v7 : List UInt8} {v8 : List UInt8} {v9 : List UInt8} (h : rdtext_t0_3 (Gr E Tryz.f99 res) v0 v1 v2 v3 v4 v5 v6 v7 v8 v9 = some res) : Ev E Tryz.f99 res 0 (rdtext_C0_3 v0 v1 v2 v3 v4 v5 v6 v7 v8 v9) := Ev.step rdtext_hO mix ((rdtext_l0_3 _ v0 v1 v2 v3 v4 v5 v6 v7 v8 v9).trans h)
theorem rdtext_s0_4 {res : List (TV E)} {v0 : Int} {v1 : List UInt8} {v2 : Int} {v3 : Int} {v4 : Int} {v5 : Int} {v6 : List UInt8} {v7 : List UInt8} {v8 : List UInt8} {v9 : List UInt8} (h : rdtext_t0_4 (Gr E Tryz.f99 res) v0 v1 v2 v3 v4 v5 v6 v7 v8 v9 = some res) : Ev E Tryz.f99 res 0 (rdtext_C0_4 v0 v1 v2 v3 v4 v5 v6 v7 v8 v9) := Ev.step rdtext_hO mix ((rdtext_l0_4 _ v0 v1 v2 v3 v4 v5 v6 v7 v8 v9).trans h)
def rdtext_any (x0 : Int) (p : (List UInt8)) : Prop := rdtext_t (Gr E Tryz.f99 [⟨.str, p⟩]) x0 = some [⟨.str, p⟩]
noncomputable def rdtext_p (x0 : Int) : (List UInt8) := @Classical.epsilon _ ⟨(dflt .str)⟩ (rdtext_any x0)
noncomputable def rdtext_r0 (x0 : Int) : List UInt8 := (rdtext_p x0)
theorem rdtext_spec (x0 : Int) (h : ∃ p, rdtext_any x0 p) : rdtext_any x0 (rdtext_p x0) := Classical.epsilon_spec h
noncomputable def rdtext_W : FnW E := fn1 (E := E) .int .str (fun _ => true) rdtext_r0
def rdtext_id : FuncId := 99
theorem rdtext_ok_of (h : ∀ (x0 : Int), rdtext_t (Gr E Tryz.f99 [⟨.str, rdtext_r0 x0⟩]) x0 = some [⟨.str, rdtext_r0 x0⟩]) : FnOk E rdtext_id rdtext_W := fn1_ok rdtext_hO mix rdtext_f rdtext_n rdtext_b (fun x0 _ => (rdtext_e _ x0).trans (h x0))
theorem rdtext_4 (n : Int) (s : List UInt8) : ∃ p : List UInt8, True ∧ Ev E Tryz.f99 [⟨.str, p⟩] 0 (rdtext_C0_4 n s 3600000 60000 1000 1 [104] [109] [115] [109, 115]) :=
  anyS (fun _ h => rdtext_s0_4 h) ⟨_, trivial, rfl⟩
theorem rdtext_3 (n : Int) (s : List UInt8) (hs : s.length ≤ 190) : ∃ p : List UInt8, True ∧ Ev E Tryz.f99 [⟨.str, p⟩] 0 (rdtext_C0_3 n s 3600000 60000 1000 1 [104] [109] [115] [109, 115]) := by
  refine anyS (fun _ h => rdtext_s0_3 h) ?_
  have hl := textV_len (w64 (Int.tdiv n 1))
  simp only [rdtext_t0_3, show (!((1 : Int) == 0)) = true from rfl, cond_true, okI_w64]
  rw [msT (show s.length + (textV (w64 (Int.tdiv n 1))).length ≤ 4611686018427387904 by omega), msT (show (s ++ textV (w64 (Int.tdiv n 1))).length + ([109, 115] : List UInt8).length ≤ 4611686018427387904 by simp only [List.length_append, List.length_cons, List.length_nil]; omega)]
  simp only [cond_true]
  cases decide ((0 : Int) < w64 (Int.tdiv n 1)) with
  | true => exact anyS (fun _ h => Gr_of h) (rdtext_4 _ _)
  | false => exact anyS (fun _ h => Gr_of h) (rdtext_4 _ _)
theorem rdtext_2 (n : Int) (s : List UInt8) (hs : s.length ≤ 160) : ∃ p : List UInt8, True ∧ Ev E Tryz.f99 [⟨.str, p⟩] 0 (rdtext_C0_2 n s 3600000 60000 1000 1 [104] [109] [115] [109, 115]) := by
  refine anyS (fun _ h => rdtext_s0_2 h) ?_
  have hl := textV_len (w64 (Int.tdiv n 1000))
  simp only [rdtext_t0_2, show (!((1000 : Int) == 0)) = true from rfl, cond_true, okI_w64]
  rw [msT (show s.length + (textV (w64 (Int.tdiv n 1000))).length ≤ 4611686018427387904 by omega), msT (show (s ++ textV (w64 (Int.tdiv n 1000))).length + ([115] : List UInt8).length ≤ 4611686018427387904 by simp only [List.length_append, List.length_cons, List.length_nil]; omega)]
  simp only [cond_true]
  cases decide ((0 : Int) < w64 (Int.tdiv n 1000)) with
  | true => exact anyS (fun _ h => Gr_of h) (rdtext_3 _ _ (by simp only [List.length_append, List.length_cons, List.length_nil]; omega))
  | false => exact anyS (fun _ h => Gr_of h) (rdtext_3 _ _ (by omega))
theorem rdtext_1 (n : Int) (s : List UInt8) (hs : s.length ≤ 130) : ∃ p : List UInt8, True ∧ Ev E Tryz.f99 [⟨.str, p⟩] 0 (rdtext_C0_1 n s 3600000 60000 1000 1 [104] [109] [115] [109, 115]) := by
  refine anyS (fun _ h => rdtext_s0_1 h) ?_
  have hl := textV_len (w64 (Int.tdiv n 60000))
  simp only [rdtext_t0_1, show (!((60000 : Int) == 0)) = true from rfl, cond_true, okI_w64]
  rw [msT (show s.length + (textV (w64 (Int.tdiv n 60000))).length ≤ 4611686018427387904 by omega), msT (show (s ++ textV (w64 (Int.tdiv n 60000))).length + ([109] : List UInt8).length ≤ 4611686018427387904 by simp only [List.length_append, List.length_cons, List.length_nil]; omega)]
  simp only [cond_true]
  cases decide ((0 : Int) < w64 (Int.tdiv n 60000)) with
  | true => exact anyS (fun _ h => Gr_of h) (rdtext_2 _ _ (by simp only [List.length_append, List.length_cons, List.length_nil]; omega))
  | false => exact anyS (fun _ h => Gr_of h) (rdtext_2 _ _ (by omega))
theorem rdtext_0 (n : Int) (s : List UInt8) (hs : s.length ≤ 100) : ∃ p : List UInt8, True ∧ Ev E Tryz.f99 [⟨.str, p⟩] 0 (rdtext_C0_0 n s 3600000 60000 1000 1 [104] [109] [115] [109, 115]) := by
  refine anyS (fun _ h => rdtext_s0_0 h) ?_
  have hl := textV_len (w64 (Int.tdiv n 3600000))
  simp only [rdtext_t0_0, show (!((3600000 : Int) == 0)) = true from rfl, cond_true, okI_w64]
  rw [msT (show s.length + (textV (w64 (Int.tdiv n 3600000))).length ≤ 4611686018427387904 by omega), msT (show (s ++ textV (w64 (Int.tdiv n 3600000))).length + ([104] : List UInt8).length ≤ 4611686018427387904 by simp only [List.length_append, List.length_cons, List.length_nil]; omega)]
  simp only [cond_true]
  cases decide ((0 : Int) < w64 (Int.tdiv n 3600000)) with
  | true => exact anyS (fun _ h => Gr_of h) (rdtext_1 _ _ (by simp only [List.length_append, List.length_cons, List.length_nil]; omega))
  | false => exact anyS (fun _ h => Gr_of h) (rdtext_1 _ _ (by omega))
theorem rdtext_ok : FnOk E rdtext_id rdtext_W := rdtext_ok_of fun n => by
  have : ∃ p, rdtext_any n p := by
    unfold rdtext_any
    simp only [rdtext_t]
    cases (bif decide (n < 0) then true else decide ((1099511627776 : Int) < n)) with
    | true => exact ⟨_, rfl⟩
    | false =>
      simp only [cond_false]
      cases n == 0 with
      | true => exact ⟨_, rfl⟩
      | false =>
        obtain ⟨p, _, hp⟩ := rdtext_0 n [] (by simp)
        exact ⟨p, Gr_of hp⟩
  exact rdtext_spec n this
/-! ### The reference's amounts (04) -/
def slong (s : List UInt8) : Int := bif (bif s == [] then true else s == [98]) then 1 else bif (bif s == [107] then true else s == [107, 98]) then 1024 else bif (bif s == [109] then true else s == [109, 98]) then 1048576 else bif (bif s == [103] then true else s == [103, 98]) then 1073741824 else 0
noncomputable def rslong_W : FnW E := fn1 (E := E) .str .int (fun _ => true) slong
def rslong_id : FuncId := 88
noncomputable def rslong_O : Oracle E := orac [] [] [] []
noncomputable def rslong_H : Hint E := Hint.mk [] [] [] [] []
noncomputable def rslong_t (_G : Nat → ASt E → Option (List (TV E))) (x0 : List UInt8) : Option (List (TV E)) :=
  bif (bif (x0 == ([] : List UInt8)) then true else (x0 == ([98] : List UInt8))) then some [⟨.int, (1 : Int)⟩] else (bif (bif (x0 == ([107] : List UInt8)) then true else (x0 == ([107, 98] : List UInt8))) then some [⟨.int, (1024 : Int)⟩] else (bif (bif (x0 == ([109] : List UInt8)) then true else (x0 == ([109, 98] : List UInt8))) then some [⟨.int, (1048576 : Int)⟩] else (bif (bif (x0 == ([103] : List UInt8)) then true else (x0 == ([103, 98] : List UInt8))) then some [⟨.int, (1073741824 : Int)⟩] else some [⟨.int, (0 : Int)⟩])))
theorem rslong_e (G : Nat → ASt E → Option (List (TV E))) (x0 : List UInt8) : runE rslong_O rslong_H G Tryz.f88 [⟨.str, x0⟩] = rslong_t G x0 := by kernel_rfl
theorem rslong_f : Tryz.prog.funcs[88]? = some Tryz.f88 := by kernel_rfl
theorem rslong_n : (Tryz.f88.name == "runtime.NumGoroutine") = false := by kernel_rfl
theorem rslong_b : Tryz.f88.body.isNone = false := by kernel_rfl
theorem rslong_ex : ∃ fn, Tryz.prog.funcs[88]? = some fn ∧ (fn.name == "runtime.NumGoroutine") = false ∧ fn.body.isNone = false := ⟨Tryz.f88, rslong_f, rslong_n, rslong_b⟩
theorem rslong_hO : OracleOk E rslong_O := orac_ok .nil .nil .nil .nil
theorem rslong_ok_of (h : ∀ (x0 : List UInt8), rslong_t (Gr E Tryz.f88 [⟨.int, slong x0⟩]) x0 = some [⟨.int, slong x0⟩]) : FnOk E rslong_id rslong_W := fn1_ok rslong_hO mix rslong_f rslong_n rslong_b (fun x0 _ => (rslong_e _ x0).trans (h x0))
theorem rslong_ok : FnOk E rslong_id rslong_W := rslong_ok_of fun s => by
  simp only [rslong_t, slong]
  cases (bif s == [] then true else s == [98]) <;> cases (bif s == [107] then true else s == [107, 98]) <;> cases (bif s == [109] then true else s == [109, 98]) <;> cases (bif s == [103] then true else s == [103, 98]) <;> rfl
noncomputable def rsparse_O : Oracle E := orac [(87, rvalue_W), (86, rwhole_W), (88, rslong_W)] [] [] []
noncomputable def rsparse_H : Hint E := Hint.mk [(0, [0, 4])] [] [] [] []
noncomputable def rsparse_C0 (v0 : List UInt8) (v1 : Int) : ASt E := ASt.mk 49 [(0, .d (.str v0)), (4, .d (.int .i64 v1))] [] 0
noncomputable def rsparse_t (G : Nat → ASt E → Option (List (TV E))) (x0 : List UInt8) : Option (List (TV E)) :=
  G 0 (rsparse_C0 x0 (0 : Int))
theorem rsparse_e (G : Nat → ASt E → Option (List (TV E))) (x0 : List UInt8) : runE rsparse_O rsparse_H G Tryz.f57 [⟨.str, x0⟩] = rsparse_t G x0 := by kernel_rfl
noncomputable def rsparse_t0 (G : Nat → ASt E → Option (List (TV E))) (v0 : List UInt8) (v1 : Int) : Option (List (TV E)) :=
  bif ((decide ((0 : Int) ≤ v1) && decide (v1 < (v0.length : Int))) || !(decide (v1 < (v0.length : Int)))) then (bif ((decide ((0 : Int) ≤ v1) && decide (v1 < (v0.length : Int))) || !(bif (decide (v1 < (v0.length : Int))) then (decide ((48 : Int) ≤ (((List.getD v0 (Int.toNat v1) 0).toNat : Nat) : Int))) else false)) then (bif (bif (bif (decide (v1 < (v0.length : Int))) then (decide ((48 : Int) ≤ (((List.getD v0 (Int.toNat v1) 0).toNat : Nat) : Int))) else false) then (decide ((((List.getD v0 (Int.toNat v1) 0).toNat : Nat) : Int) ≤ (57 : Int))) else false) then G 0 (rsparse_C0 v0 (w64 (v1 + (1 : Int)))) else (bif (decide ((0 : Int) ≤ v1) && decide (v1 ≤ (v0.length : Int)) && decide ((v0.length : Int) ≤ (v0.length : Int))) then (bif ((decide ((0 : Int) ≤ (0 : Int)) && decide ((0 : Int) ≤ v1) && decide (v1 ≤ (v0.length : Int))) || !(!((slong (List.take (Int.toNat (v0.length : Int) - Int.toNat v1) (List.drop (Int.toNat v1) v0))) == (0 : Int)))) then (bif ((okL1 (List.take (Int.toNat v1 - Int.toNat (0 : Int)) (List.drop (Int.toNat (0 : Int)) v0))) || !(!((slong (List.take (Int.toNat (v0.length : Int) - Int.toNat v1) (List.drop (Int.toNat v1) v0))) == (0 : Int)))) then (bif (bif ((slong (List.take (Int.toNat (v0.length : Int) - Int.toNat v1) (List.drop (Int.toNat v1) v0))) == (0 : Int)) then true else (!(wholeB (List.take (Int.toNat v1 - Int.toNat (0 : Int)) (List.drop (Int.toNat (0 : Int)) v0))))) then some [⟨.int, (0 : Int)⟩, ⟨.api_Errno, (3 : Int)⟩] else (bif (decide ((0 : Int) ≤ (0 : Int)) && decide ((0 : Int) ≤ v1) && decide (v1 ≤ (v0.length : Int))) then (bif (okD (List.take (Int.toNat v1 - Int.toNat (0 : Int)) (List.drop (Int.toNat (0 : Int)) v0))) then (bif (!((slong (List.take (Int.toNat (v0.length : Int) - Int.toNat v1) (List.drop (Int.toNat v1) v0))) == (0 : Int))) then (bif (decide ((w64 (Int.tdiv (1125899906842624 : Int) (slong (List.take (Int.toNat (v0.length : Int) - Int.toNat v1) (List.drop (Int.toNat v1) v0))))) < (rvalueV (List.take (Int.toNat v1 - Int.toNat (0 : Int)) (List.drop (Int.toNat (0 : Int)) v0))))) then some [⟨.int, (0 : Int)⟩, ⟨.api_Errno, (9 : Int)⟩] else some [⟨.int, (w64 ((rvalueV (List.take (Int.toNat v1 - Int.toNat (0 : Int)) (List.drop (Int.toNat (0 : Int)) v0))) * (slong (List.take (Int.toNat (v0.length : Int) - Int.toNat v1) (List.drop (Int.toNat v1) v0)))))⟩, ⟨.api_Errno, (0 : Int)⟩]) else none) else none) else none)) else none) else none) else none)) else none) else none
theorem rsparse_l0 (G : Nat → ASt E → Option (List (TV E))) (v0 : List UInt8) (v1 : Int) : runL rsparse_O rsparse_H G Tryz.f57 0 (rsparse_C0 v0 v1) = rsparse_t0 G v0 v1 := by kernel_rfl
theorem rsparse_f : Tryz.prog.funcs[57]? = some Tryz.f57 := by kernel_rfl
theorem rsparse_n : (Tryz.f57.name == "runtime.NumGoroutine") = false := by kernel_rfl
theorem rsparse_b : Tryz.f57.body.isNone = false := by kernel_rfl
theorem rsparse_ex : ∃ fn, Tryz.prog.funcs[57]? = some fn ∧ (fn.name == "runtime.NumGoroutine") = false ∧ fn.body.isNone = false := ⟨Tryz.f57, rsparse_f, rsparse_n, rsparse_b⟩
theorem rsparse_hO : OracleOk E rsparse_O := orac_ok (.cons rvalue_ok (.cons rwhole_ok (.cons rslong_ok .nil))) .nil .nil .nil
theorem rsparse_s0 {res : List (TV E)} {v0 : List UInt8} {v1 : Int} (h : rsparse_t0 (Gr E Tryz.f57 res) v0 v1 = some res) : Ev E Tryz.f57 res 0 (rsparse_C0 v0 v1) := Ev.step rsparse_hO mix ((rsparse_l0 _ v0 v1).trans h)
def rsparse_any (x0 : List UInt8) (p : Int × Int) : Prop := rsparse_t (Gr E Tryz.f57 [⟨.int, p.1⟩, ⟨.api_Errno, p.2⟩]) x0 = some [⟨.int, p.1⟩, ⟨.api_Errno, p.2⟩]
noncomputable def rsparse_p (x0 : List UInt8) : Int × Int := @Classical.epsilon _ ⟨(dflt .int, dflt .api_Errno)⟩ (rsparse_any x0)
noncomputable def rsparse_r0 (x0 : List UInt8) : Int := (rsparse_p x0).1
noncomputable def rsparse_r1 (x0 : List UInt8) : Int := (rsparse_p x0).2
theorem rsparse_spec (x0 : List UInt8) (h : ∃ p, rsparse_any x0 p) : rsparse_any x0 (rsparse_p x0) := Classical.epsilon_spec h
noncomputable def rsparse_W : FnW E := fn12 (E := E) .str .int .api_Errno okL1 rsparse_r0 rsparse_r1
def rsparse_id : FuncId := 57
theorem rsparse_ok_of (h : ∀ (x0 : List UInt8), okL1 x0 = true → rsparse_t (Gr E Tryz.f57 [⟨.int, rsparse_r0 x0⟩, ⟨.api_Errno, rsparse_r1 x0⟩]) x0 = some [⟨.int, rsparse_r0 x0⟩, ⟨.api_Errno, rsparse_r1 x0⟩]) : FnOk E rsparse_id rsparse_W := fn12_ok rsparse_hO mix rsparse_f rsparse_n rsparse_b (fun x0 hk => (rsparse_e _ x0).trans (h x0 hk))
theorem rsparse_end (s : List UInt8) (hs : s.length ≤ 1000000) (i : Nat) (hi : i ≤ s.length) (hx : (bif bif decide ((i : Int) < (s.length : Int)) then decide ((48 : Int) ≤ ((List.getD s i 0).toNat : Int)) else false then decide (((List.getD s i 0).toNat : Int) ≤ 57) else false) = false)
    (hx1 : ((decide ((i : Int) < (s.length : Int)) || !(decide ((i : Int) < (s.length : Int))))) = true) (hx2 : (decide ((i : Int) < (s.length : Int)) || !(bif decide ((i : Int) < (s.length : Int)) then decide ((48 : Int) ≤ ((List.getD s i 0).toNat : Int)) else false)) = true) :
    ∃ p : Int × Int, True ∧ Ev E Tryz.f57 [⟨.int, p.1⟩, ⟨.api_Errno, p.2⟩] 0 (rsparse_C0 s i) := by
  have o1 : okL1 (s.take i) = true := okL1_iff.2 (by simp; omega)
  refine anyS (fun _ h => rsparse_s0 h) ?_
  simp only [rsparse_t0, cutN, cutT, dle hi, d00, d0, dlr, Bool.and_self, Bool.true_and, Bool.true_or, Int.toNat_natCast, o1, hx, hx1, hx2, cond_true, cond_false]
  generalize slong (s.drop i) = u
  cases hu : u == 0 with
  | true => exact ⟨(_, _), trivial, rfl⟩
  | false =>
    simp only [cond_false, Bool.not_false, cond_true]
    cases hb : wholeB (s.take i) with
    | false => exact ⟨(_, _), trivial, rfl⟩
    | true =>
      have o2 : okD (s.take i) = true := okD_iff.2 ⟨by simp; omega, wholeD hb⟩
      simp only [Bool.not_true, cond_false, o2, cond_true]
      cases decide (w64 (Int.tdiv 1125899906842624 u) < rvalueV (s.take i)) <;> exact ⟨(_, _), trivial, rfl⟩
theorem rsparse_0 (s : List UInt8) (hs : s.length ≤ 1000000) : ∀ (m i : Nat), s.length - i = m → i ≤ s.length →
    ∃ p : Int × Int, True ∧ Ev E Tryz.f57 [⟨.int, p.1⟩, ⟨.api_Errno, p.2⟩] 0 (rsparse_C0 s i) := by
  intro m
  induction m with
  | zero =>
    intro i h1 h2
    have hd := dge (show s.length ≤ i by omega)
    exact rsparse_end s hs i h2 (by rw [hd]; rfl) (by rw [hd]; rfl) (by rw [hd]; rfl)
  | succ m ih =>
    intro i h1 h2
    have hi : i < s.length := by omega
    have e3 : w64 ((i : Int) + 1) = ((i + 1 : Nat) : Int) := by rw [w64_id (by omega) (by omega)]; omega
    have hd := dlt hi
    cases hx : (bif bif decide ((i : Int) < (s.length : Int)) then decide ((48 : Int) ≤ ((List.getD s i 0).toNat : Int)) else false then decide (((List.getD s i 0).toNat : Int) ≤ 57) else false) with
    | false => exact rsparse_end s hs i h2 hx (by rw [hd]; rfl) (by rw [hd]; rfl)
    | true =>
      refine anyS (fun _ h => rsparse_s0 h) ?_
      rw [hd] at hx
      simp only [rsparse_t0, hd, d0, Bool.and_self, Bool.true_or, cond_true, e3, Int.toNat_natCast] at hx ⊢
      simp only [hx, cond_true]
      exact anyS (fun _ h => Gr_of h) (ih (i + 1) (by omega) (by omega))
theorem rsparse_ok : FnOk E rsparse_id rsparse_W := rsparse_ok_of fun s hk => by
  obtain ⟨p, _, hp⟩ := rsparse_0 s (okL1_iff.1 hk) _ 0 rfl (Nat.zero_le _)
  exact rsparse_spec s ⟨p, Gr_of hp⟩
noncomputable def rsunit_O : Oracle E := orac [] [] [] []
noncomputable def rsunit_H : Hint E := Hint.mk [] [] [] [] []
noncomputable def rsunit_t (_G : Nat → ASt E → Option (List (TV E))) (x0 : Int) : Option (List (TV E)) :=
  bif (bif (decide (x0 < (0 : Int))) then true else (decide ((1125899906842624 : Int) < x0))) then some [⟨.int, (0 : Int)⟩] else (bif ((!((1024 : Int) == (0 : Int))) || !(!(x0 == (0 : Int)))) then (bif (bif (x0 == (0 : Int)) then true else ((Int.tmod x0 (1024 : Int)) != (0 : Int))) then some [⟨.int, (1 : Int)⟩] else (bif (!((1048576 : Int) == (0 : Int))) then (bif ((Int.tmod x0 (1048576 : Int)) != (0 : Int)) then some [⟨.int, (1024 : Int)⟩] else (bif (!((1073741824 : Int) == (0 : Int))) then (bif ((Int.tmod x0 (1073741824 : Int)) != (0 : Int)) then some [⟨.int, (1048576 : Int)⟩] else some [⟨.int, (1073741824 : Int)⟩]) else none)) else none)) else none)
theorem rsunit_e (G : Nat → ASt E → Option (List (TV E))) (x0 : Int) : runE rsunit_O rsunit_H G Tryz.f89 [⟨.int, x0⟩] = rsunit_t G x0 := by kernel_rfl
theorem rsunit_f : Tryz.prog.funcs[89]? = some Tryz.f89 := by kernel_rfl
theorem rsunit_n : (Tryz.f89.name == "runtime.NumGoroutine") = false := by kernel_rfl
theorem rsunit_b : Tryz.f89.body.isNone = false := by kernel_rfl
theorem rsunit_ex : ∃ fn, Tryz.prog.funcs[89]? = some fn ∧ (fn.name == "runtime.NumGoroutine") = false ∧ fn.body.isNone = false := ⟨Tryz.f89, rsunit_f, rsunit_n, rsunit_b⟩
theorem rsunit_hO : OracleOk E rsunit_O := orac_ok .nil .nil .nil .nil
def rsunit_any (x0 : Int) (p : Int) : Prop := rsunit_t (Gr E Tryz.f89 [⟨.int, p⟩]) x0 = some [⟨.int, p⟩]
noncomputable def rsunit_p (x0 : Int) : Int := @Classical.epsilon _ ⟨(dflt .int)⟩ (rsunit_any x0)
noncomputable def rsunit_r0 (x0 : Int) : Int := (rsunit_p x0)
theorem rsunit_spec (x0 : Int) (h : ∃ p, rsunit_any x0 p) : rsunit_any x0 (rsunit_p x0) := Classical.epsilon_spec h
noncomputable def rsunit_W : FnW E := fn1 (E := E) .int .int (fun _ => true) rsunit_r0
def rsunit_id : FuncId := 89
theorem rsunit_ok_of (h : ∀ (x0 : Int), rsunit_t (Gr E Tryz.f89 [⟨.int, rsunit_r0 x0⟩]) x0 = some [⟨.int, rsunit_r0 x0⟩]) : FnOk E rsunit_id rsunit_W := fn1_ok rsunit_hO mix rsunit_f rsunit_n rsunit_b (fun x0 _ => (rsunit_e _ x0).trans (h x0))
theorem rsunit_ok : FnOk E rsunit_id rsunit_W := rsunit_ok_of fun n => by
  have : ∃ p, rsunit_any n p := by
    unfold rsunit_any
    simp only [rsunit_t, show (!((1024 : Int) == 0)) = true from rfl, show (!((1048576 : Int) == 0)) = true from rfl, show (!((1073741824 : Int) == 0)) = true from rfl, Bool.true_or, cond_true]
    cases (bif decide (n < 0) then true else decide ((1125899906842624 : Int) < n)) <;> cases (bif n == 0 then true else Int.tmod n 1024 != 0) <;> cases (Int.tmod n 1048576 != 0) <;> cases (Int.tmod n 1073741824 != 0) <;> exact ⟨_, rfl⟩
  exact rsunit_spec n this
noncomputable def rstext_O : Oracle E := orac [(74, rtext_W), (89, rsunit_W)] [] [] []
noncomputable def rstext_H : Hint E := Hint.mk [] [] [] [] []
noncomputable def rstext_t (_G : Nat → ASt E → Option (List (TV E))) (x0 : Int) : Option (List (TV E)) :=
  bif ((rsunit_r0 x0) == (0 : Int)) then some [⟨.str, ([] : List UInt8)⟩] else (bif (!((rsunit_r0 x0) == (0 : Int))) then (bif (okI (w64 (Int.tdiv x0 (rsunit_r0 x0)))) then (bif ((rsunit_r0 x0) == (1024 : Int)) then (bif (decide ((textV (w64 (Int.tdiv x0 (rsunit_r0 x0)))).length + ([107] : List UInt8).length ≤ maxStr)) then some [⟨.str, ((textV (w64 (Int.tdiv x0 (rsunit_r0 x0)))) ++ ([107] : List UInt8))⟩] else none) else (bif ((rsunit_r0 x0) == (1048576 : Int)) then (bif (decide ((textV (w64 (Int.tdiv x0 (rsunit_r0 x0)))).length + ([109] : List UInt8).length ≤ maxStr)) then some [⟨.str, ((textV (w64 (Int.tdiv x0 (rsunit_r0 x0)))) ++ ([109] : List UInt8))⟩] else none) else (bif ((rsunit_r0 x0) == (1073741824 : Int)) then (bif (decide ((textV (w64 (Int.tdiv x0 (rsunit_r0 x0)))).length + ([103] : List UInt8).length ≤ maxStr)) then some [⟨.str, ((textV (w64 (Int.tdiv x0 (rsunit_r0 x0)))) ++ ([103] : List UInt8))⟩] else none) else some [⟨.str, (textV (w64 (Int.tdiv x0 (rsunit_r0 x0))))⟩]))) else none) else none)
theorem rstext_e (G : Nat → ASt E → Option (List (TV E))) (x0 : Int) : runE rstext_O rstext_H G Tryz.f59 [⟨.int, x0⟩] = rstext_t G x0 := by kernel_rfl
theorem rstext_f : Tryz.prog.funcs[59]? = some Tryz.f59 := by kernel_rfl
theorem rstext_n : (Tryz.f59.name == "runtime.NumGoroutine") = false := by kernel_rfl
theorem rstext_b : Tryz.f59.body.isNone = false := by kernel_rfl
theorem rstext_ex : ∃ fn, Tryz.prog.funcs[59]? = some fn ∧ (fn.name == "runtime.NumGoroutine") = false ∧ fn.body.isNone = false := ⟨Tryz.f59, rstext_f, rstext_n, rstext_b⟩
theorem rstext_hO : OracleOk E rstext_O := orac_ok (.cons rtext_ok (.cons rsunit_ok .nil)) .nil .nil .nil
def rstext_any (x0 : Int) (p : (List UInt8)) : Prop := rstext_t (Gr E Tryz.f59 [⟨.str, p⟩]) x0 = some [⟨.str, p⟩]
noncomputable def rstext_p (x0 : Int) : (List UInt8) := @Classical.epsilon _ ⟨(dflt .str)⟩ (rstext_any x0)
noncomputable def rstext_r0 (x0 : Int) : List UInt8 := (rstext_p x0)
theorem rstext_spec (x0 : Int) (h : ∃ p, rstext_any x0 p) : rstext_any x0 (rstext_p x0) := Classical.epsilon_spec h
noncomputable def rstext_W : FnW E := fn1 (E := E) .int .str (fun _ => true) rstext_r0
def rstext_id : FuncId := 59
theorem rstext_ok_of (h : ∀ (x0 : Int), rstext_t (Gr E Tryz.f59 [⟨.str, rstext_r0 x0⟩]) x0 = some [⟨.str, rstext_r0 x0⟩]) : FnOk E rstext_id rstext_W := fn1_ok rstext_hO mix rstext_f rstext_n rstext_b (fun x0 _ => (rstext_e _ x0).trans (h x0))
theorem rstext_ok : FnOk E rstext_id rstext_W := rstext_ok_of fun n => by
  have : ∃ p, rstext_any n p := by
    unfold rstext_any
    simp only [rstext_t]
    generalize rsunit_r0 n = u
    cases hu : u == 0 with
    | true => exact ⟨_, rfl⟩
    | false =>
      have hl := textV_len (w64 (Int.tdiv n u))
      have m1 : ∀ c : UInt8, decide ((textV (w64 (Int.tdiv n u))).length + [c].length ≤ maxStr) = true := fun c => msT (by rw [List.length_singleton]; omega)
      simp only [Bool.not_false, cond_true, cond_false, okI_w64, m1]
      cases u == 1024 <;> cases u == 1048576 <;> cases u == 1073741824 <;> exact ⟨_, rfl⟩
  exact rstext_spec n this
end Go.Proofs.YtoelhlikomifjaaGreat.Rf