/- Part 6 of a proof: the texts G1 MirY MirZ, one behind the other. -/
import Derived.Test.YtoibjelpldfpfaaGreatDoorGz4
import Derived.Test.YtoibjelpldfpfaaGreatDoorGz5
import Derived.RangeFuncRecord
import Derived.RangeFuncCalls
import Derived.OrdersIn
import Derived.LoopNIn
namespace Go.Proofs.YtoibjelpldfpfaaGreatDoor.Rf
open Go Go.RowKit Go.Sort Go.Proofs.YtoibjelpldfpfaaGreatDoor.Mir
noncomputable def d194_m (x0 : List UInt8) : Option (Int × Bool) := let y1 : Int := (x0.length : Int); bif ((decide ((0 : Int) ≤ (1 : Int)) && decide ((1 : Int) < (x0.length : Int))) || !(y1 == (2 : Int))) then (bif ((decide ((0 : Int) ≤ (0 : Int)) && decide ((0 : Int) < (x0.length : Int))) || !(bif (y1 == (2 : Int)) then ((((List.getD x0 (Int.toNat (1 : Int)) 0).toNat : Nat) : Int) == (98 : Int)) else false)) then (bif (bif (bif (y1 == (2 : Int)) then ((((List.getD x0 (Int.toNat (1 : Int)) 0).toNat : Nat) : Int) == (98 : Int)) else false) then ((((List.getD x0 (Int.toNat (0 : Int)) 0).toNat : Nat) : Int) != (98 : Int)) else false) then (bif (decide ((0 : Int) ≤ (0 : Int)) && decide ((0 : Int) ≤ (1 : Int)) && decide ((1 : Int) ≤ (x0.length : Int))) then (bif ((List.take (Int.toNat (1 : Int) - Int.toNat (0 : Int)) (List.drop (Int.toNat (0 : Int)) x0)) == ([] : List UInt8)) then (bif ((List.take (Int.toNat (1 : Int) - Int.toNat (0 : Int)) (List.drop (Int.toNat (0 : Int)) x0)) == ([] : List UInt8)) then (some ((0 : Int), true)) else (bif ((List.take (Int.toNat (1 : Int) - Int.toNat (0 : Int)) (List.drop (Int.toNat (0 : Int)) x0)) == ([107] : List UInt8)) then (some ((1 : Int), true)) else (bif ((List.take (Int.toNat (1 : Int) - Int.toNat (0 : Int)) (List.drop (Int.toNat (0 : Int)) x0)) == ([109] : List UInt8)) then (some ((2 : Int), true)) else (bif ((List.take (Int.toNat (1 : Int) - Int.toNat (0 : Int)) (List.drop (Int.toNat (0 : Int)) x0)) == ([103] : List UInt8)) then (some ((3 : Int), true)) else (some ((0 : Int), false)))))) else (bif ((List.take (Int.toNat (1 : Int) - Int.toNat (0 : Int)) (List.drop (Int.toNat (0 : Int)) x0)) == ([98] : List UInt8)) then (some ((0 : Int), true)) else (bif ((List.take (Int.toNat (1 : Int) - Int.toNat (0 : Int)) (List.drop (Int.toNat (0 : Int)) x0)) == ([107] : List UInt8)) then (some ((1 : Int), true)) else (bif ((List.take (Int.toNat (1 : Int) - Int.toNat (0 : Int)) (List.drop (Int.toNat (0 : Int)) x0)) == ([109] : List UInt8)) then (some ((2 : Int), true)) else (bif ((List.take (Int.toNat (1 : Int) - Int.toNat (0 : Int)) (List.drop (Int.toNat (0 : Int)) x0)) == ([103] : List UInt8)) then (some ((3 : Int), true)) else (some ((0 : Int), false))))))) else (none)) else (bif (x0 == ([] : List UInt8)) then (bif (x0 == ([] : List UInt8)) then (some ((0 : Int), true)) else (bif (x0 == ([107] : List UInt8)) then (some ((1 : Int), true)) else (bif (x0 == ([109] : List UInt8)) then (some ((2 : Int), true)) else (bif (x0 == ([103] : List UInt8)) then (some ((3 : Int), true)) else (some ((0 : Int), false)))))) else (bif (x0 == ([98] : List UInt8)) then (some ((0 : Int), true)) else (bif (x0 == ([107] : List UInt8)) then (some ((1 : Int), true)) else (bif (x0 == ([109] : List UInt8)) then (some ((2 : Int), true)) else (bif (x0 == ([103] : List UInt8)) then (some ((3 : Int), true)) else (some ((0 : Int), false)))))))) else (none)) else (none)
noncomputable def d194_k (x0 : List UInt8) : Bool := (d194_m x0).isSome
noncomputable def d194_r0 (x0 : List UInt8) : Int := ((d194_m x0).getD (dflt .int, dflt .bool)).1
noncomputable def d194_r1 (x0 : List UInt8) : Bool := ((d194_m x0).getD (dflt .int, dflt .bool)).2
noncomputable def d194_W : FnW E := fn12 (E := E) .str .int .bool d194_k d194_r0 d194_r1
def d194_id : FuncId := 194
noncomputable def d194_O : Oracle E := orac [] [] [] []
noncomputable def d194_H : Hint E := Hint.mk [] [] [] [] [] 5 []
noncomputable def d194_t (_G : Nat → ASt E → Option (List (TV E))) (x0 : List UInt8) : Option (List (TV E)) :=
  let y1 : Int := (x0.length : Int); bif ((decide ((0 : Int) ≤ (1 : Int)) && decide ((1 : Int) < (x0.length : Int))) || !(y1 == (2 : Int))) then (bif ((decide ((0 : Int) ≤ (0 : Int)) && decide ((0 : Int) < (x0.length : Int))) || !(bif (y1 == (2 : Int)) then ((((List.getD x0 (Int.toNat 1) 0).toNat : Nat) : Int) == (98 : Int)) else false)) then (bif (bif (bif (y1 == (2 : Int)) then ((((List.getD x0 (Int.toNat 1) 0).toNat : Nat) : Int) == (98 : Int)) else false) then ((((List.getD x0 (Int.toNat 0) 0).toNat : Nat) : Int) != (98 : Int)) else false) then (bif (decide ((0 : Int) ≤ (0 : Int)) && decide ((0 : Int) ≤ (1 : Int)) && decide ((1 : Int) ≤ (x0.length : Int))) then (bif ((List.take (Int.toNat 1 - Int.toNat 0) (List.drop (Int.toNat 0) x0)) == ([] : List UInt8)) then (bif ((List.take (Int.toNat 1 - Int.toNat 0) (List.drop (Int.toNat 0) x0)) == ([] : List UInt8)) then some [⟨.int, (0 : Int)⟩, ⟨.bool, true⟩] else (bif ((List.take (Int.toNat 1 - Int.toNat 0) (List.drop (Int.toNat 0) x0)) == ([107] : List UInt8)) then some [⟨.int, (1 : Int)⟩, ⟨.bool, true⟩] else (bif ((List.take (Int.toNat 1 - Int.toNat 0) (List.drop (Int.toNat 0) x0)) == ([109] : List UInt8)) then some [⟨.int, (2 : Int)⟩, ⟨.bool, true⟩] else (bif ((List.take (Int.toNat 1 - Int.toNat 0) (List.drop (Int.toNat 0) x0)) == ([103] : List UInt8)) then some [⟨.int, (3 : Int)⟩, ⟨.bool, true⟩] else some [⟨.int, (0 : Int)⟩, ⟨.bool, false⟩])))) else (bif ((List.take (Int.toNat 1 - Int.toNat 0) (List.drop (Int.toNat 0) x0)) == ([98] : List UInt8)) then some [⟨.int, (0 : Int)⟩, ⟨.bool, true⟩] else (bif ((List.take (Int.toNat 1 - Int.toNat 0) (List.drop (Int.toNat 0) x0)) == ([107] : List UInt8)) then some [⟨.int, (1 : Int)⟩, ⟨.bool, true⟩] else (bif ((List.take (Int.toNat 1 - Int.toNat 0) (List.drop (Int.toNat 0) x0)) == ([109] : List UInt8)) then some [⟨.int, (2 : Int)⟩, ⟨.bool, true⟩] else (bif ((List.take (Int.toNat 1 - Int.toNat 0) (List.drop (Int.toNat 0) x0)) == ([103] : List UInt8)) then some [⟨.int, (3 : Int)⟩, ⟨.bool, true⟩] else some [⟨.int, (0 : Int)⟩, ⟨.bool, false⟩]))))) else none) else (bif (x0 == ([] : List UInt8)) then (bif (x0 == ([] : List UInt8)) then some [⟨.int, (0 : Int)⟩, ⟨.bool, true⟩] else (bif (x0 == ([107] : List UInt8)) then some [⟨.int, (1 : Int)⟩, ⟨.bool, true⟩] else (bif (x0 == ([109] : List UInt8)) then some [⟨.int, (2 : Int)⟩, ⟨.bool, true⟩] else (bif (x0 == ([103] : List UInt8)) then some [⟨.int, (3 : Int)⟩, ⟨.bool, true⟩] else some [⟨.int, (0 : Int)⟩, ⟨.bool, false⟩])))) else (bif (x0 == ([98] : List UInt8)) then some [⟨.int, (0 : Int)⟩, ⟨.bool, true⟩] else (bif (x0 == ([107] : List UInt8)) then some [⟨.int, (1 : Int)⟩, ⟨.bool, true⟩] else (bif (x0 == ([109] : List UInt8)) then some [⟨.int, (2 : Int)⟩, ⟨.bool, true⟩] else (bif (x0 == ([103] : List UInt8)) then some [⟨.int, (3 : Int)⟩, ⟨.bool, true⟩] else some [⟨.int, (0 : Int)⟩, ⟨.bool, false⟩])))))) else none) else none
theorem d194_e (G : Nat → ASt E → Option (List (TV E))) (x0 : List UInt8) : runE d194_O d194_H G Tryz.f194 [⟨.str, x0⟩] = d194_t G x0 := by kernel_rfl
theorem d194_f : Tryz.prog.funcs[194]? = some Tryz.f194 := by kernel_rfl
theorem d194_n : (Tryz.f194.name == "runtime.NumGoroutine") = false := by kernel_rfl
theorem d194_b : Tryz.f194.body.isNone = false := by kernel_rfl
theorem d194_hO : OracleOk E d194_O := orac_ok .nil .nil .nil .nil
theorem d194_ok_of (h : ∀ (x0 : List UInt8), d194_k x0 = true → d194_t (Gr E Tryz.f194 [⟨.int, d194_r0 x0⟩, ⟨.bool, d194_r1 x0⟩]) x0 = some [⟨.int, d194_r0 x0⟩, ⟨.bool, d194_r1 x0⟩]) : FnOk E d194_id d194_W := fn12_ok d194_hO mix d194_f d194_n d194_b (fun x0 hk => (d194_e _ x0).trans (h x0 hk))
theorem d194_ok : FnOk E d194_id d194_W := d194_ok_of fun x0 hk => by
  have h := some_of (d := (dflt .int, dflt .bool)) hk
  unfold d194_t
  generalize hr : (d194_m x0).getD (dflt .int, dflt .bool) = r at h
  rw [show d194_r0 x0 = r.1 from congrArg (fun z => z.1) hr]; rw [show d194_r1 x0 = r.2 from congrArg (fun z => z.2) hr];
  unfold d194_m at h
  exact (bif2 h (fun h => (bif2 h (fun h => (bif2 h (fun h => (bif2 h (fun h => (bif2 h (fun h => (bif2 h (fun h => (by have h := Option.some.inj h; subst h; exact rfl)) fun h => (bif2 h (fun h => (by have h := Option.some.inj h; subst h; exact rfl)) fun h => (bif2 h (fun h => (by have h := Option.some.inj h; subst h; exact rfl)) fun h => (bif2 h (fun h => (by have h := Option.some.inj h; subst h; exact rfl)) fun h => (by have h := Option.some.inj h; subst h; exact rfl)))))) fun h => (bif2 h (fun h => (by have h := Option.some.inj h; subst h; exact rfl)) fun h => (bif2 h (fun h => (by have h := Option.some.inj h; subst h; exact rfl)) fun h => (bif2 h (fun h => (by have h := Option.some.inj h; subst h; exact rfl)) fun h => (bif2 h (fun h => (by have h := Option.some.inj h; subst h; exact rfl)) fun h => (by have h := Option.some.inj h; subst h; exact rfl))))))) fun h => (by cases h))) fun h => (bif2 h (fun h => (bif2 h (fun h => (by have h := Option.some.inj h; subst h; exact rfl)) fun h => (bif2 h (fun h => (by have h := Option.some.inj h; subst h; exact rfl)) fun h => (bif2 h (fun h => (by have h := Option.some.inj h; subst h; exact rfl)) fun h => (bif2 h (fun h => (by have h := Option.some.inj h; subst h; exact rfl)) fun h => (by have h := Option.some.inj h; subst h; exact rfl)))))) fun h => (bif2 h (fun h => (by have h := Option.some.inj h; subst h; exact rfl)) fun h => (bif2 h (fun h => (by have h := Option.some.inj h; subst h; exact rfl)) fun h => (bif2 h (fun h => (by have h := Option.some.inj h; subst h; exact rfl)) fun h => (bif2 h (fun h => (by have h := Option.some.inj h; subst h; exact rfl)) fun h => (by have h := Option.some.inj h; subst h; exact rfl)))))))) fun h => (by cases h))) fun h => (by cases h))
noncomputable def d147_m0 : Nat → List UInt8 → Int → Option (Int × Int)
  | 0, _, _ => none
  | f + 1, v0, v1 => bif ((decide ((0 : Int) ≤ (w64 (v1 - (1 : Int)))) && decide ((w64 (v1 - (1 : Int))) < (v0.length : Int))) || !(decide ((0 : Int) < v1))) then (bif ((decide ((0 : Int) ≤ (w64 (v1 - (1 : Int)))) && decide ((w64 (v1 - (1 : Int))) < (v0.length : Int))) || !((decide ((0 : Int) < v1)) && (!(decide ((((List.getD v0 (Int.toNat (w64 (v1 - (1 : Int)))) 0).toNat : Nat) : Int) < (48 : Int)))))) then (bif (bif (decide ((0 : Int) < v1)) then (bif (decide ((((List.getD v0 (Int.toNat (w64 (v1 - (1 : Int)))) 0).toNat : Nat) : Int) < (48 : Int))) then true else (decide ((57 : Int) < (((List.getD v0 (Int.toNat (w64 (v1 - (1 : Int)))) 0).toNat : Nat) : Int)))) else false) then (d147_m0 f v0 (w64 (v1 - (1 : Int)))) else (bif (decide ((0 : Int) ≤ v1) && decide (v1 ≤ (v0.length : Int)) && decide ((v0.length : Int) ≤ (v0.length : Int))) then (bif (d194_k (List.take (Int.toNat (v0.length : Int) - Int.toNat v1) (List.drop (Int.toNat v1) v0))) then (let y2 : Int := (d194_r0 (List.take (Int.toNat (v0.length : Int) - Int.toNat v1) (List.drop (Int.toNat v1) v0))); let y3 : Bool := (d194_r1 (List.take (Int.toNat (v0.length : Int) - Int.toNat v1) (List.drop (Int.toNat v1) v0))); bif (!y3) then (some ((0 : Int), (3 : Int))) else (bif (decide ((0 : Int) ≤ (0 : Int)) && decide ((0 : Int) ≤ v1) && decide (v1 ≤ (v0.length : Int))) then (bif (decide ((0 : Int) ≤ (w64 ((10 : Int) * y2))) && decide ((w64 ((10 : Int) * y2)) ≤ (64 : Int))) then (bif (d143_k (List.take (Int.toNat v1 - Int.toNat (0 : Int)) (List.drop (Int.toNat (0 : Int)) v0)) ((1125899906842624 : Int) / 2 ^ (Int.toNat (w64 ((10 : Int) * y2))))) then (let y4 : Int := (d143_r0 (List.take (Int.toNat v1 - Int.toNat (0 : Int)) (List.drop (Int.toNat (0 : Int)) v0)) ((1125899906842624 : Int) / 2 ^ (Int.toNat (w64 ((10 : Int) * y2))))); let y5 : Int := (d143_r1 (List.take (Int.toNat v1 - Int.toNat (0 : Int)) (List.drop (Int.toNat (0 : Int)) v0)) ((1125899906842624 : Int) / 2 ^ (Int.toNat (w64 ((10 : Int) * y2))))); bif (decide ((0 : Int) ≤ (w64 ((10 : Int) * y2))) && decide ((w64 ((10 : Int) * y2)) ≤ (64 : Int))) then (some ((w64 (y4 * 2 ^ (Int.toNat (w64 ((10 : Int) * y2))))), y5)) else (none)) else (none)) else (none)) else (none))) else (none)) else (none))) else (none)) else (none)
noncomputable def d147_m (x0 : List UInt8) : Option (Int × Int) := let y1 : Int := (x0.length : Int); d147_m0 1000000000 x0 y1
noncomputable def d147_k (x0 : List UInt8) : Bool := (d147_m x0).isSome
noncomputable def d147_r0 (x0 : List UInt8) : Int := ((d147_m x0).getD (dflt .int, dflt .api_Errno)).1
noncomputable def d147_r1 (x0 : List UInt8) : Int := ((d147_m x0).getD (dflt .int, dflt .api_Errno)).2
noncomputable def d147_W : FnW E := fn12 (E := E) .str .int .api_Errno d147_k d147_r0 d147_r1
def d147_id : FuncId := 147
noncomputable def d147_O : Oracle E := orac [(143, d143_W), (194, d194_W)] [] [] []
noncomputable def d147_H : Hint E := Hint.mk [(0, [0, 4])] [] [] [] [] 5 []
noncomputable def d147_C0 (v0 : List UInt8) (v1 : Int) : ASt E := ASt.mk 53 [(0, .d (.str v0)), (4, .d (.int .i64 v1))] [] 0
noncomputable def d147_t (G : Nat → ASt E → Option (List (TV E))) (x0 : List UInt8) : Option (List (TV E)) :=
  let y1 : Int := (x0.length : Int); G 0 (d147_C0 x0 y1)
theorem d147_e (G : Nat → ASt E → Option (List (TV E))) (x0 : List UInt8) : runE d147_O d147_H G Tryz.f147 [⟨.str, x0⟩] = d147_t G x0 := by kernel_rfl
noncomputable def d147_t0 (G : Nat → ASt E → Option (List (TV E))) (v0 : List UInt8) (v1 : Int) : Option (List (TV E)) :=
  bif ((decide ((0 : Int) ≤ (w64 (v1 - (1 : Int)))) && decide ((w64 (v1 - (1 : Int))) < (v0.length : Int))) || !(decide ((0 : Int) < v1))) then (bif ((decide ((0 : Int) ≤ (w64 (v1 - (1 : Int)))) && decide ((w64 (v1 - (1 : Int))) < (v0.length : Int))) || !((decide ((0 : Int) < v1)) && (!(decide ((((List.getD v0 (Int.toNat (w64 (v1 - (1 : Int)))) 0).toNat : Nat) : Int) < (48 : Int)))))) then (bif (bif (decide ((0 : Int) < v1)) then (bif (decide ((((List.getD v0 (Int.toNat (w64 (v1 - (1 : Int)))) 0).toNat : Nat) : Int) < (48 : Int))) then true else (decide ((57 : Int) < (((List.getD v0 (Int.toNat (w64 (v1 - (1 : Int)))) 0).toNat : Nat) : Int)))) else false) then G 0 (d147_C0 v0 (w64 (v1 - (1 : Int)))) else (bif (decide ((0 : Int) ≤ v1) && decide (v1 ≤ (v0.length : Int)) && decide ((v0.length : Int) ≤ (v0.length : Int))) then (bif (d194_k (List.take (Int.toNat (v0.length : Int) - Int.toNat v1) (List.drop (Int.toNat v1) v0))) then (let y2 : Int := (d194_r0 (List.take (Int.toNat (v0.length : Int) - Int.toNat v1) (List.drop (Int.toNat v1) v0))); let y3 : Bool := (d194_r1 (List.take (Int.toNat (v0.length : Int) - Int.toNat v1) (List.drop (Int.toNat v1) v0))); bif (!y3) then some [⟨.int, (0 : Int)⟩, ⟨.api_Errno, (3 : Int)⟩] else (bif (decide ((0 : Int) ≤ (0 : Int)) && decide ((0 : Int) ≤ v1) && decide (v1 ≤ (v0.length : Int))) then (bif (decide ((0 : Int) ≤ (w64 ((10 : Int) * y2))) && decide ((w64 ((10 : Int) * y2)) ≤ (64 : Int))) then (bif (d143_k (List.take (Int.toNat v1 - Int.toNat 0) (List.drop (Int.toNat 0) v0)) ((1125899906842624 : Int) / 2 ^ (Int.toNat (w64 ((10 : Int) * y2))))) then (let y4 : Int := (d143_r0 (List.take (Int.toNat v1 - Int.toNat 0) (List.drop (Int.toNat 0) v0)) ((1125899906842624 : Int) / 2 ^ (Int.toNat (w64 ((10 : Int) * y2))))); let y5 : Int := (d143_r1 (List.take (Int.toNat v1 - Int.toNat 0) (List.drop (Int.toNat 0) v0)) ((1125899906842624 : Int) / 2 ^ (Int.toNat (w64 ((10 : Int) * y2))))); bif (decide ((0 : Int) ≤ (w64 ((10 : Int) * y2))) && decide ((w64 ((10 : Int) * y2)) ≤ (64 : Int))) then some [⟨.int, (w64 (y4 * 2 ^ (Int.toNat (w64 ((10 : Int) * y2)))))⟩, ⟨.api_Errno, y5⟩] else none) else none) else none) else none)) else none) else none)) else none) else none
theorem d147_l0 (G : Nat → ASt E → Option (List (TV E))) (v0 : List UInt8) (v1 : Int) : runL d147_O d147_H G Tryz.f147 0 (d147_C0 v0 v1) = d147_t0 G v0 v1 := by kernel_rfl
theorem d147_f : Tryz.prog.funcs[147]? = some Tryz.f147 := by kernel_rfl
theorem d147_n : (Tryz.f147.name == "runtime.NumGoroutine") = false := by kernel_rfl
theorem d147_b : Tryz.f147.body.isNone = false := by kernel_rfl
theorem d147_hO : OracleOk E d147_O := orac_ok (.cons d143_ok (.cons d194_ok .nil)) .nil .nil .nil
theorem d147_s0 {res : List (TV E)} {v0 : List UInt8} {v1 : Int} (h : d147_t0 (Gr E Tryz.f147 res) v0 v1 = some res) : Ev E Tryz.f147 res 0 (d147_C0 v0 v1) := Ev.step d147_hO mix ((d147_l0 _ v0 v1).trans h)
theorem d147_ok_of (h : ∀ (x0 : List UInt8), d147_k x0 = true → d147_t (Gr E Tryz.f147 [⟨.int, d147_r0 x0⟩, ⟨.api_Errno, d147_r1 x0⟩]) x0 = some [⟨.int, d147_r0 x0⟩, ⟨.api_Errno, d147_r1 x0⟩]) : FnOk E d147_id d147_W := fn12_ok d147_hO mix d147_f d147_n d147_b (fun x0 hk => (d147_e _ x0).trans (h x0 hk))
theorem d147_v (f : Nat) : (∀ (v0 : List UInt8) (v1 : Int) (r : Int × Int), d147_m0 f v0 v1 = some r → Ev E Tryz.f147 [⟨.int, r.1⟩, ⟨.api_Errno, r.2⟩] 0 (d147_C0 v0 v1)) := by
  induction f with
  | zero => exact (fun _ _ _ h => by cases h)
  | succ f ih =>
    exact (fun v0 v1 r h => d147_s0 (by unfold d147_m0 at h; unfold d147_t0; exact (bif2 h (fun h => (bif2 h (fun h => (bif2 h (fun h => (Gr_of (ih _ _ _ h))) fun h => (bif2 h (fun h => (bif2 h (fun h => (bif2 h (fun h => (by have h := Option.some.inj h; subst h; exact rfl)) fun h => (bif2 h (fun h => (bif2 h (fun h => (bif2 h (fun h => (bif2 h (fun h => (by have h := Option.some.inj h; subst h; exact rfl)) fun h => (by cases h))) fun h => (by cases h))) fun h => (by cases h))) fun h => (by cases h)))) fun h => (by cases h))) fun h => (by cases h)))) fun h => (by cases h))) fun h => (by cases h))))
theorem d147_ok : FnOk E d147_id d147_W := d147_ok_of fun x0 hk => by
  have h := some_of (d := (dflt .int, dflt .api_Errno)) hk
  unfold d147_t
  generalize hr : (d147_m x0).getD (dflt .int, dflt .api_Errno) = r at h
  rw [show d147_r0 x0 = r.1 from congrArg (fun z => z.1) hr]; rw [show d147_r1 x0 = r.2 from congrArg (fun z => z.2) hr];
  unfold d147_m at h
  exact (Gr_of ((d147_v _) _ _ _ h))
noncomputable def d175_m (x0 : Int) : Option (Bool) := bif (d176_k x0) then (bif ((d177_k x0) || !(!(d176_r0 x0))) then (some ((bif (d176_r0 x0) then true else (d177_r0 x0)))) else (none)) else (none)
noncomputable def d175_k (x0 : Int) : Bool := (d175_m x0).isSome
noncomputable def d175_r0 (x0 : Int) : Bool := ((d175_m x0).getD (dflt .bool))
noncomputable def d175_W : FnW E := fn1 (E := E) .byte .bool d175_k d175_r0
def d175_id : FuncId := 175
noncomputable def d175_O : Oracle E := orac [(177, d177_W), (176, d176_W)] [] [] []
noncomputable def d175_H : Hint E := Hint.mk [] [] [] [] [] 5 []
noncomputable def d175_t (_G : Nat → ASt E → Option (List (TV E))) (x0 : Int) : Option (List (TV E)) :=
  bif (d176_k x0) then (bif ((d177_k x0) || !(!(d176_r0 x0))) then some [⟨.bool, (bif (d176_r0 x0) then true else (d177_r0 x0))⟩] else none) else none
theorem d175_e (G : Nat → ASt E → Option (List (TV E))) (x0 : Int) : runE d175_O d175_H G Tryz.f175 [⟨.byte, x0⟩] = d175_t G x0 := by kernel_rfl
theorem d175_f : Tryz.prog.funcs[175]? = some Tryz.f175 := by kernel_rfl
theorem d175_n : (Tryz.f175.name == "runtime.NumGoroutine") = false := by kernel_rfl
theorem d175_b : Tryz.f175.body.isNone = false := by kernel_rfl
theorem d175_hO : OracleOk E d175_O := orac_ok (.cons d177_ok (.cons d176_ok .nil)) .nil .nil .nil
theorem d175_ok_of (h : ∀ (x0 : Int), d175_k x0 = true → d175_t (Gr E Tryz.f175 [⟨.bool, d175_r0 x0⟩]) x0 = some [⟨.bool, d175_r0 x0⟩]) : FnOk E d175_id d175_W := fn1_ok d175_hO mix d175_f d175_n d175_b (fun x0 hk => (d175_e _ x0).trans (h x0 hk))
theorem d175_ok : FnOk E d175_id d175_W := d175_ok_of fun x0 hk => by
  have h := some_of (d := (dflt .bool)) hk
  unfold d175_t
  generalize hr : (d175_m x0).getD (dflt .bool) = r at h
  rw [show d175_r0 x0 = r from hr];
  unfold d175_m at h
  exact (bif2 h (fun h => (bif2 h (fun h => (by have h := Option.some.inj h; subst h; exact rfl)) fun h => (by cases h))) fun h => (by cases h))
noncomputable def d178_m (x0 : Int) : Option (Bool) := bif (d176_k x0) then (bif ((d177_k x0) || !(!(d176_r0 x0))) then (some ((bif (bif (bif (d176_r0 x0) then true else (d177_r0 x0)) then true else (x0 == (45 : Int))) then true else (x0 == (95 : Int))))) else (none)) else (none)
noncomputable def d178_k (x0 : Int) : Bool := (d178_m x0).isSome
noncomputable def d178_r0 (x0 : Int) : Bool := ((d178_m x0).getD (dflt .bool))
noncomputable def d178_W : FnW E := fn1 (E := E) .byte .bool d178_k d178_r0
def d178_id : FuncId := 178
noncomputable def d178_O : Oracle E := orac [(177, d177_W), (176, d176_W)] [] [] []
noncomputable def d178_H : Hint E := Hint.mk [] [] [] [] [] 5 []
noncomputable def d178_t (_G : Nat → ASt E → Option (List (TV E))) (x0 : Int) : Option (List (TV E)) :=
  bif (d176_k x0) then (bif ((d177_k x0) || !(!(d176_r0 x0))) then some [⟨.bool, (bif (bif (bif (d176_r0 x0) then true else (d177_r0 x0)) then true else (x0 == (45 : Int))) then true else (x0 == (95 : Int)))⟩] else none) else none
theorem d178_e (G : Nat → ASt E → Option (List (TV E))) (x0 : Int) : runE d178_O d178_H G Tryz.f178 [⟨.byte, x0⟩] = d178_t G x0 := by kernel_rfl
theorem d178_f : Tryz.prog.funcs[178]? = some Tryz.f178 := by kernel_rfl
theorem d178_n : (Tryz.f178.name == "runtime.NumGoroutine") = false := by kernel_rfl
theorem d178_b : Tryz.f178.body.isNone = false := by kernel_rfl
theorem d178_hO : OracleOk E d178_O := orac_ok (.cons d177_ok (.cons d176_ok .nil)) .nil .nil .nil
theorem d178_ok_of (h : ∀ (x0 : Int), d178_k x0 = true → d178_t (Gr E Tryz.f178 [⟨.bool, d178_r0 x0⟩]) x0 = some [⟨.bool, d178_r0 x0⟩]) : FnOk E d178_id d178_W := fn1_ok d178_hO mix d178_f d178_n d178_b (fun x0 hk => (d178_e _ x0).trans (h x0 hk))
theorem d178_ok : FnOk E d178_id d178_W := d178_ok_of fun x0 hk => by
  have h := some_of (d := (dflt .bool)) hk
  unfold d178_t
  generalize hr : (d178_m x0).getD (dflt .bool) = r at h
  rw [show d178_r0 x0 = r from hr];
  unfold d178_m at h
  exact (bif2 h (fun h => (bif2 h (fun h => (by have h := Option.some.inj h; subst h; exact rfl)) fun h => (by cases h))) fun h => (by cases h))
noncomputable def d104_m (x0 : fields) (x1 : List UInt8) : Option (fields) := bif ((fun n _ => fit n) (⟨x0.node.kind, x0.node.text, x0.node.keys, x0.node.kids⟩ : Node) x1) then (let y1 : Node := (getV (⟨x0.node.kind, x0.node.text, x0.node.keys, x0.node.kids⟩ : Node) x1); let y2 : Bool := (getB (⟨x0.node.kind, x0.node.text, x0.node.keys, x0.node.kids⟩ : Node) x1); some ((⟨(⟨y1.kind, y1.text, y1.keys, y1.kids⟩ : Node)⟩ : fields))) else (none)
noncomputable def d104_k (x0 : fields) (x1 : List UInt8) : Bool := (d104_m x0 x1).isSome
noncomputable def d104_r0 (x0 : fields) (x1 : List UInt8) : fields := ((d104_m x0 x1).getD (dflt .load_fields))
noncomputable def d104_W : FnW E := fn2 (E := E) .load_fields .str .load_fields d104_k d104_r0
def d104_id : FuncId := 104
noncomputable def d104_O : Oracle E := orac [(101, nget_W)] [] [] []
noncomputable def d104_H : Hint E := Hint.mk [] [] [] [] [] 5 []
noncomputable def d104_t (_G : Nat → ASt E → Option (List (TV E))) (x0 : fields) (x1 : List UInt8) : Option (List (TV E)) :=
  bif ((fun n _ => fit n) (⟨x0.node.kind, x0.node.text, x0.node.keys, x0.node.kids⟩ : Node) x1) then (let y1 : Node := (getV ⟨x0.node.kind, x0.node.text, x0.node.keys, x0.node.kids⟩ x1); let y2 : Bool := (getB ⟨x0.node.kind, x0.node.text, x0.node.keys, x0.node.kids⟩ x1); some [⟨.load_fields, (⟨⟨y1.kind, y1.text, y1.keys, y1.kids⟩⟩ : fields)⟩]) else none
theorem d104_e (G : Nat → ASt E → Option (List (TV E))) (x0 : fields) (x1 : List UInt8) : runE d104_O d104_H G Tryz.f104 [⟨.load_fields, x0⟩, ⟨.str, x1⟩] = d104_t G x0 x1 := by kernel_rfl
theorem d104_f : Tryz.prog.funcs[104]? = some Tryz.f104 := by kernel_rfl
theorem d104_n : (Tryz.f104.name == "runtime.NumGoroutine") = false := by kernel_rfl
theorem d104_b : Tryz.f104.body.isNone = false := by kernel_rfl
theorem d104_hO : OracleOk E d104_O := orac_ok (.cons nget_ok .nil) .nil .nil .nil
theorem d104_ok_of (h : ∀ (x0 : fields) (x1 : List UInt8), d104_k x0 x1 = true → d104_t (Gr E Tryz.f104 [⟨.load_fields, d104_r0 x0 x1⟩]) x0 x1 = some [⟨.load_fields, d104_r0 x0 x1⟩]) : FnOk E d104_id d104_W := fn2_ok d104_hO mix d104_f d104_n d104_b (fun x0 x1 hk => (d104_e _ x0 x1).trans (h x0 x1 hk))
theorem d104_ok : FnOk E d104_id d104_W := d104_ok_of fun x0 x1 hk => by
  have h := some_of (d := (dflt .load_fields)) hk
  unfold d104_t
  generalize hr : (d104_m x0 x1).getD (dflt .load_fields) = r at h
  rw [show d104_r0 x0 x1 = r from hr];
  unfold d104_m at h
  exact (bif2 h (fun h => (by have h := Option.some.inj h; subst h; exact rfl)) fun h => (by cases h))
noncomputable def d105_m (x0 : fields) (x1 : List UInt8) : Option ((List UInt8)) := bif (x0.node.kind != (1 : Int)) then (some (x1)) else (some (x0.node.text))
noncomputable def d105_k (x0 : fields) (x1 : List UInt8) : Bool := (d105_m x0 x1).isSome
noncomputable def d105_r0 (x0 : fields) (x1 : List UInt8) : List UInt8 := ((d105_m x0 x1).getD (dflt .str))
noncomputable def d105_W : FnW E := fn2 (E := E) .load_fields .str .str d105_k d105_r0
def d105_id : FuncId := 105
noncomputable def d105_O : Oracle E := orac [] [] [] []
noncomputable def d105_H : Hint E := Hint.mk [] [] [] [] [] 5 []
noncomputable def d105_t (_G : Nat → ASt E → Option (List (TV E))) (x0 : fields) (x1 : List UInt8) : Option (List (TV E)) :=
  bif (x0.node.kind != (1 : Int)) then some [⟨.str, x1⟩] else some [⟨.str, x0.node.text⟩]
theorem d105_e (G : Nat → ASt E → Option (List (TV E))) (x0 : fields) (x1 : List UInt8) : runE d105_O d105_H G Tryz.f105 [⟨.load_fields, x0⟩, ⟨.str, x1⟩] = d105_t G x0 x1 := by kernel_rfl
theorem d105_f : Tryz.prog.funcs[105]? = some Tryz.f105 := by kernel_rfl
theorem d105_n : (Tryz.f105.name == "runtime.NumGoroutine") = false := by kernel_rfl
theorem d105_b : Tryz.f105.body.isNone = false := by kernel_rfl
theorem d105_hO : OracleOk E d105_O := orac_ok .nil .nil .nil .nil
theorem d105_ok_of (h : ∀ (x0 : fields) (x1 : List UInt8), d105_k x0 x1 = true → d105_t (Gr E Tryz.f105 [⟨.str, d105_r0 x0 x1⟩]) x0 x1 = some [⟨.str, d105_r0 x0 x1⟩]) : FnOk E d105_id d105_W := fn2_ok d105_hO mix d105_f d105_n d105_b (fun x0 x1 hk => (d105_e _ x0 x1).trans (h x0 x1 hk))
theorem d105_ok : FnOk E d105_id d105_W := d105_ok_of fun x0 x1 hk => by
  have h := some_of (d := (dflt .str)) hk
  unfold d105_t
  generalize hr : (d105_m x0 x1).getD (dflt .str) = r at h
  rw [show d105_r0 x0 x1 = r from hr];
  unfold d105_m at h
  exact (bif2 h (fun h => (by have h := Option.some.inj h; subst h; exact rfl)) fun h => (by have h := Option.some.inj h; subst h; exact rfl))
noncomputable def d137_m0 : Nat → List Var → List (List UInt8) → Int → Int → Int → List UInt8 → List (List UInt8) → List Node → Option ((List Var))
  | 0, _, _, _, _, _, _, _, _ => none
  | f + 1, v0, v1, v2, v3, v4, v5, v6, v7 => bif (decide (v3 < v2)) then (bif (decide ((0 : Int) ≤ v3) && decide (v3 < (v1.length : Int))) then (bif (decide ((0 : Int) ≤ v3) && decide (v3 < (v7.length : Int))) then (bif (decide ((v0.length + ([(⟨(List.getD v1 (Int.toNat v3) (dflt .str)), (List.getD v7 (Int.toNat v3) (dflt .api_Node)).text⟩ : Var)] : List Var).length) * 32 ≤ maxBytes)) then (d137_m0 f (v0 ++ ([(⟨(List.getD v1 (Int.toNat v3) (dflt .str)), (List.getD v7 (Int.toNat v3) (dflt .api_Node)).text⟩ : Var)] : List Var)) v1 v2 (w64 (v3 + (1 : Int))) v4 v5 v6 v7) else (none)) else (none)) else (none)) else (some (v0))
noncomputable def d137_m (x0 : fields) : Option ((List Var)) := let y2 : Int := (x0.node.keys.length : Int); d137_m0 1000000000 ([] : List Var) x0.node.keys y2 (0 : Int) x0.node.kind x0.node.text x0.node.keys x0.node.kids
noncomputable def d137_k (x0 : fields) : Bool := (d137_m x0).isSome
noncomputable def d137_r0 (x0 : fields) : List Var := ((d137_m x0).getD (dflt .l_api_Var))
noncomputable def d137_W : FnW E := fn1 (E := E) .load_fields .l_api_Var d137_k d137_r0
def d137_id : FuncId := 137
noncomputable def d137_O : Oracle E := orac [] [] [] []
noncomputable def d137_H : Hint E := Hint.mk [(0, [1, 3, 8, 9, 10])] [] [(0, [(3, none, true, .api_Var)])] [] [] 5 []
noncomputable def d137_C0 (v0 : List Var) (v1 : List (List UInt8)) (v2 v3 v4 : Int) (v5 : List UInt8) (v6 : List (List UInt8)) (v7 : List Node) : ASt E := ASt.mk 29 [(1, .ptr 0 0), (3, .grow .api_Var v0 1), (8, .d (.slice .str v1)), (9, .d (.int .i64 v2)), (10, .d (.int .i64 v3))] [(0, .box [.d (.int .i64 v4), .d (.str v5), .d (.slice .str v6), .d (.slice .api_Node v7)]), (1, .tail true)] 2
noncomputable def d137_t (G : Nat → ASt E → Option (List (TV E))) (x0 : fields) : Option (List (TV E)) :=
  let y2 : Int := (x0.node.keys.length : Int); G 0 (d137_C0 ([] : List Var) x0.node.keys y2 0 x0.node.kind x0.node.text x0.node.keys x0.node.kids)
theorem d137_e (G : Nat → ASt E → Option (List (TV E))) (x0 : fields) : runE d137_O d137_H G Tryz.f137 [⟨.load_fields, x0⟩] = d137_t G x0 := by kernel_rfl
noncomputable def d137_t0 (G : Nat → ASt E → Option (List (TV E))) (v0 : List Var) (v1 : List (List UInt8)) (v2 v3 v4 : Int) (v5 : List UInt8) (v6 : List (List UInt8)) (v7 : List Node) : Option (List (TV E)) :=
  bif (decide (v3 < v2)) then (bif (decide ((0 : Int) ≤ v3) && decide (v3 < (v1.length : Int))) then (bif (decide ((0 : Int) ≤ v3) && decide (v3 < (v7.length : Int))) then (bif (decide ((v0.length + ([(⟨(List.getD v1 (Int.toNat v3) (dflt .str)), (List.getD v7 (Int.toNat v3) (dflt .api_Node)).text⟩ : Var)] : List Var).length) * 32 ≤ maxBytes)) then G 0 (d137_C0 (v0 ++ ([(⟨(List.getD v1 (Int.toNat v3) (dflt .str)), (List.getD v7 (Int.toNat v3) (dflt .api_Node)).text⟩ : Var)] : List Var)) v1 v2 (w64 (v3 + (1 : Int))) v4 v5 v6 v7) else none) else none) else none) else some [⟨.l_api_Var, v0⟩]
theorem d137_l0 (G : Nat → ASt E → Option (List (TV E))) (v0 : List Var) (v1 : List (List UInt8)) (v2 v3 v4 : Int) (v5 : List UInt8) (v6 : List (List UInt8)) (v7 : List Node) : runL d137_O d137_H G Tryz.f137 0 (d137_C0 v0 v1 v2 v3 v4 v5 v6 v7) = d137_t0 G v0 v1 v2 v3 v4 v5 v6 v7 := by kernel_rfl
theorem d137_f : Tryz.prog.funcs[137]? = some Tryz.f137 := by kernel_rfl
theorem d137_n : (Tryz.f137.name == "runtime.NumGoroutine") = false := by kernel_rfl
theorem d137_b : Tryz.f137.body.isNone = false := by kernel_rfl
theorem d137_hO : OracleOk E d137_O := orac_ok .nil .nil .nil .nil
theorem d137_s0 {res : List (TV E)} {v0 : List Var} {v1 : List (List UInt8)} {v2 v3 v4 : Int} {v5 : List UInt8} {v6 : List (List UInt8)} {v7 : List Node} (h : d137_t0 (Gr E Tryz.f137 res) v0 v1 v2 v3 v4 v5 v6 v7 = some res) : Ev E Tryz.f137 res 0 (d137_C0 v0 v1 v2 v3 v4 v5 v6 v7) := Ev.step d137_hO mix ((d137_l0 _ v0 v1 v2 v3 v4 v5 v6 v7).trans h)
theorem d137_ok_of (h : ∀ (x0 : fields), d137_k x0 = true → d137_t (Gr E Tryz.f137 [⟨.l_api_Var, d137_r0 x0⟩]) x0 = some [⟨.l_api_Var, d137_r0 x0⟩]) : FnOk E d137_id d137_W := fn1_ok d137_hO mix d137_f d137_n d137_b (fun x0 hk => (d137_e _ x0).trans (h x0 hk))
theorem d137_v (f : Nat) : (∀ (v0 : List Var) (v1 : List (List UInt8)) (v2 : Int) (v3 : Int) (v4 : Int) (v5 : List UInt8) (v6 : List (List UInt8)) (v7 : List Node) (r : (List Var)), d137_m0 f v0 v1 v2 v3 v4 v5 v6 v7 = some r → Ev E Tryz.f137 [⟨.l_api_Var, r⟩] 0 (d137_C0 v0 v1 v2 v3 v4 v5 v6 v7)) := by
  induction f with
  | zero => exact (fun _ _ _ _ _ _ _ _ _ h => by cases h)
  | succ f ih =>
    exact (fun v0 v1 v2 v3 v4 v5 v6 v7 r h => d137_s0 (by unfold d137_m0 at h; unfold d137_t0; exact (bif2 h (fun h => (bif2 h (fun h => (bif2 h (fun h => (bif2 h (fun h => (Gr_of (ih _ _ _ _ _ _ _ _ _ h))) fun h => (by cases h))) fun h => (by cases h))) fun h => (by cases h))) fun h => (by have h := Option.some.inj h; subst h; exact rfl))))
theorem d137_ok : FnOk E d137_id d137_W := d137_ok_of fun x0 hk => by
  have h := some_of (d := (dflt .l_api_Var)) hk
  unfold d137_t
  generalize hr : (d137_m x0).getD (dflt .l_api_Var) = r at h
  rw [show d137_r0 x0 = r from hr];
  unfold d137_m at h
  exact (Gr_of ((d137_v _) _ _ _ _ _ _ _ _ _ h))
noncomputable def d145_m (x0 : Arr185) (x1 : List UInt8) : Option (Int) := bif (decide ((0 : Int) ≤ (0 : Int)) && decide ((0 : Int) ≤ (4 : Int)) && decide ((4 : Int) ≤ (4 : Int))) then (bif ((fun l _ => ln6k l) (List.take (Int.toNat (4 : Int) - Int.toNat (0 : Int)) (List.drop (Int.toNat (0 : Int)) ([x0.e0, x0.e1, x0.e2, x0.e3] : List (List UInt8)))) x1) then (let y1 : Int := (indexk (List.take (Int.toNat (4 : Int) - Int.toNat (0 : Int)) (List.drop (Int.toNat (0 : Int)) ([x0.e0, x0.e1, x0.e2, x0.e3] : List (List UInt8)))) x1); let y2 : Int := (bif decide (y1 < (0 : Int)) then (0 : Int) else y1); some (y2)) else (none)) else (none)
noncomputable def d145_k (x0 : Arr185) (x1 : List UInt8) : Bool := (d145_m x0 x1).isSome
noncomputable def d145_r0 (x0 : Arr185) (x1 : List UInt8) : Int := ((d145_m x0 x1).getD (dflt .int))
noncomputable def d145_W : FnW E := fn2 (E := E) .a4_str .str .int d145_k d145_r0
def d145_id : FuncId := 145
noncomputable def d145_O : Oracle E := orac [(37, indexk_W)] [] [] []
noncomputable def d145_H : Hint E := Hint.mk [] [] [] [] [(1, [2])] 5 []
noncomputable def d145_t (_G : Nat → ASt E → Option (List (TV E))) (x0 : Arr185) (x1 : List UInt8) : Option (List (TV E)) :=
  bif (decide ((0 : Int) ≤ (0 : Int)) && decide ((0 : Int) ≤ (4 : Int)) && decide ((4 : Int) ≤ (4 : Int))) then (bif ((fun l _ => ln6k l) (List.take (Int.toNat 4 - Int.toNat 0) (List.drop (Int.toNat 0) ([x0.e0, x0.e1, x0.e2, x0.e3] : List (List UInt8)))) x1) then (let y1 : Int := (indexk (List.take (Int.toNat 4 - Int.toNat 0) (List.drop (Int.toNat 0) ([x0.e0, x0.e1, x0.e2, x0.e3] : List (List UInt8)))) x1); let y2 : Int := (bif decide (y1 < (0 : Int)) then (0 : Int) else y1); some [⟨.int, y2⟩]) else none) else none
theorem d145_e (G : Nat → ASt E → Option (List (TV E))) (x0 : Arr185) (x1 : List UInt8) : runE d145_O d145_H G Tryz.f145 [⟨.a4_str, x0⟩, ⟨.str, x1⟩] = d145_t G x0 x1 := by kernel_rfl
theorem d145_f : Tryz.prog.funcs[145]? = some Tryz.f145 := by kernel_rfl
theorem d145_n : (Tryz.f145.name == "runtime.NumGoroutine") = false := by kernel_rfl
theorem d145_b : Tryz.f145.body.isNone = false := by kernel_rfl
theorem d145_hO : OracleOk E d145_O := orac_ok (.cons indexk_ok .nil) .nil .nil .nil
theorem d145_ok_of (h : ∀ (x0 : Arr185) (x1 : List UInt8), d145_k x0 x1 = true → d145_t (Gr E Tryz.f145 [⟨.int, d145_r0 x0 x1⟩]) x0 x1 = some [⟨.int, d145_r0 x0 x1⟩]) : FnOk E d145_id d145_W := fn2_ok d145_hO mix d145_f d145_n d145_b (fun x0 x1 hk => (d145_e _ x0 x1).trans (h x0 x1 hk))
theorem d145_ok : FnOk E d145_id d145_W := d145_ok_of fun x0 x1 hk => by
  have h := some_of (d := (dflt .int)) hk
  unfold d145_t
  generalize hr : (d145_m x0 x1).getD (dflt .int) = r at h
  rw [show d145_r0 x0 x1 = r from hr];
  unfold d145_m at h
  exact (bif2 h (fun h => (bif2 h (fun h => (by have h := Option.some.inj h; subst h; exact rfl)) fun h => (by cases h))) fun h => (by cases h))
noncomputable def d138_m0 : Nat → List Dep → List (List UInt8) → Int → Int → Int → List UInt8 → List (List UInt8) → List Node → Option ((List Dep))
  | 0, _, _, _, _, _, _, _, _ => none
  | f + 1, v0, v1, v2, v3, v4, v5, v6, v7 => bif (decide (v3 < v2)) then (bif (decide ((0 : Int) ≤ v3) && decide (v3 < (v1.length : Int))) then (bif (decide ((0 : Int) ≤ v3) && decide (v3 < (v7.length : Int))) then (bif (d127_k (0 : Int)) then (let y8 : Arr185 := (d127_r0 (0 : Int)); bif (d104_k (⟨(⟨(List.getD v7 (Int.toNat v3) (dflt .api_Node)).kind, (List.getD v7 (Int.toNat v3) (dflt .api_Node)).text, (List.getD v7 (Int.toNat v3) (dflt .api_Node)).keys, (List.getD v7 (Int.toNat v3) (dflt .api_Node)).kids⟩ : Node)⟩ : fields) ([99, 111, 110, 100, 105, 116, 105, 111, 110] : List UInt8)) then (let y9 : fields := (d104_r0 (⟨(⟨(List.getD v7 (Int.toNat v3) (dflt .api_Node)).kind, (List.getD v7 (Int.toNat v3) (dflt .api_Node)).text, (List.getD v7 (Int.toNat v3) (dflt .api_Node)).keys, (List.getD v7 (Int.toNat v3) (dflt .api_Node)).kids⟩ : Node)⟩ : fields) ([99, 111, 110, 100, 105, 116, 105, 111, 110] : List UInt8)); bif (d145_k y8 y9.node.text) then (let y10 : Int := (d145_r0 y8 y9.node.text); bif (d104_k (⟨(⟨(List.getD v7 (Int.toNat v3) (dflt .api_Node)).kind, (List.getD v7 (Int.toNat v3) (dflt .api_Node)).text, (List.getD v7 (Int.toNat v3) (dflt .api_Node)).keys, (List.getD v7 (Int.toNat v3) (dflt .api_Node)).kids⟩ : Node)⟩ : fields) ([114, 101, 115, 116, 97, 114, 116] : List UInt8)) then (let y11 : fields := (d104_r0 (⟨(⟨(List.getD v7 (Int.toNat v3) (dflt .api_Node)).kind, (List.getD v7 (Int.toNat v3) (dflt .api_Node)).text, (List.getD v7 (Int.toNat v3) (dflt .api_Node)).keys, (List.getD v7 (Int.toNat v3) (dflt .api_Node)).kids⟩ : Node)⟩ : fields) ([114, 101, 115, 116, 97, 114, 116] : List UInt8)); bif (d104_k (⟨(⟨(List.getD v7 (Int.toNat v3) (dflt .api_Node)).kind, (List.getD v7 (Int.toNat v3) (dflt .api_Node)).text, (List.getD v7 (Int.toNat v3) (dflt .api_Node)).keys, (List.getD v7 (Int.toNat v3) (dflt .api_Node)).kids⟩ : Node)⟩ : fields) ([114, 101, 113, 117, 105, 114, 101, 100] : List UInt8)) then (let y12 : fields := (d104_r0 (⟨(⟨(List.getD v7 (Int.toNat v3) (dflt .api_Node)).kind, (List.getD v7 (Int.toNat v3) (dflt .api_Node)).text, (List.getD v7 (Int.toNat v3) (dflt .api_Node)).keys, (List.getD v7 (Int.toNat v3) (dflt .api_Node)).kids⟩ : Node)⟩ : fields) ([114, 101, 113, 117, 105, 114, 101, 100] : List UInt8)); bif (decide ((v0.length + ([(⟨(List.getD v1 (Int.toNat v3) (dflt .str)), y10, (y11.node.text == ([116, 114, 117, 101] : List UInt8)), (y12.node.text == ([116, 114, 117, 101] : List UInt8))⟩ : Dep)] : List Dep).length) * 32 ≤ maxBytes)) then (d138_m0 f (v0 ++ ([(⟨(List.getD v1 (Int.toNat v3) (dflt .str)), y10, (y11.node.text == ([116, 114, 117, 101] : List UInt8)), (y12.node.text == ([116, 114, 117, 101] : List UInt8))⟩ : Dep)] : List Dep)) v1 v2 (w64 (v3 + (1 : Int))) v4 v5 v6 v7) else (none)) else (none)) else (none)) else (none)) else (none)) else (none)) else (none)) else (none)) else (some (v0))
noncomputable def d138_m (x0 : fields) : Option ((List Dep)) := let y7 : Int := (x0.node.keys.length : Int); d138_m0 1000000000 ([] : List Dep) x0.node.keys y7 (0 : Int) x0.node.kind x0.node.text x0.node.keys x0.node.kids
noncomputable def d138_k (x0 : fields) : Bool := (d138_m x0).isSome
noncomputable def d138_r0 (x0 : fields) : List Dep := ((d138_m x0).getD (dflt .l_api_Dep))
noncomputable def d138_W : FnW E := fn1 (E := E) .load_fields .l_api_Dep d138_k d138_r0
def d138_id : FuncId := 138
noncomputable def d138_O : Oracle E := orac [(104, d104_W), (145, d145_W), (127, d127_W)] [] [] []
noncomputable def d138_H : Hint E := Hint.mk [(0, [1, 3, 9, 10, 11])] [] [(0, [(3, none, true, .api_Dep)])] [] [] 5 []
noncomputable def d138_C0 (v0 : List Dep) (v1 : List (List UInt8)) (v2 v3 v4 : Int) (v5 : List UInt8) (v6 : List (List UInt8)) (v7 : List Node) : ASt E := ASt.mk 46 [(1, .ptr 0 0), (3, .grow .api_Dep v0 1), (9, .d (.slice .str v1)), (10, .d (.int .i64 v2)), (11, .d (.int .i64 v3))] [(0, .box [.d (.int .i64 v4), .d (.str v5), .d (.slice .str v6), .d (.slice .api_Node v7)]), (1, .tail true)] 2
noncomputable def d138_t (G : Nat → ASt E → Option (List (TV E))) (x0 : fields) : Option (List (TV E)) :=
  let y7 : Int := (x0.node.keys.length : Int); G 0 (d138_C0 ([] : List Dep) x0.node.keys y7 0 x0.node.kind x0.node.text x0.node.keys x0.node.kids)
theorem d138_e (G : Nat → ASt E → Option (List (TV E))) (x0 : fields) : runE d138_O d138_H G Tryz.f138 [⟨.load_fields, x0⟩] = d138_t G x0 := by kernel_rfl
noncomputable def d138_t0 (G : Nat → ASt E → Option (List (TV E))) (v0 : List Dep) (v1 : List (List UInt8)) (v2 v3 v4 : Int) (v5 : List UInt8) (v6 : List (List UInt8)) (v7 : List Node) : Option (List (TV E)) :=
  bif (decide (v3 < v2)) then (bif (decide ((0 : Int) ≤ v3) && decide (v3 < (v1.length : Int))) then (bif (decide ((0 : Int) ≤ v3) && decide (v3 < (v7.length : Int))) then (bif (d127_k 0) then (let y8 : Arr185 := (d127_r0 0); bif (d104_k (⟨⟨(List.getD v7 (Int.toNat v3) (dflt .api_Node)).kind, (List.getD v7 (Int.toNat v3) (dflt .api_Node)).text, (List.getD v7 (Int.toNat v3) (dflt .api_Node)).keys, (List.getD v7 (Int.toNat v3) (dflt .api_Node)).kids⟩⟩ : fields) [99, 111, 110, 100, 105, 116, 105, 111, 110]) then (let y9 : fields := (d104_r0 (⟨⟨(List.getD v7 (Int.toNat v3) (dflt .api_Node)).kind, (List.getD v7 (Int.toNat v3) (dflt .api_Node)).text, (List.getD v7 (Int.toNat v3) (dflt .api_Node)).keys, (List.getD v7 (Int.toNat v3) (dflt .api_Node)).kids⟩⟩ : fields) [99, 111, 110, 100, 105, 116, 105, 111, 110]); bif (d145_k y8 y9.node.text) then (let y10 : Int := (d145_r0 y8 y9.node.text); bif (d104_k (⟨⟨(List.getD v7 (Int.toNat v3) (dflt .api_Node)).kind, (List.getD v7 (Int.toNat v3) (dflt .api_Node)).text, (List.getD v7 (Int.toNat v3) (dflt .api_Node)).keys, (List.getD v7 (Int.toNat v3) (dflt .api_Node)).kids⟩⟩ : fields) [114, 101, 115, 116, 97, 114, 116]) then (let y11 : fields := (d104_r0 (⟨⟨(List.getD v7 (Int.toNat v3) (dflt .api_Node)).kind, (List.getD v7 (Int.toNat v3) (dflt .api_Node)).text, (List.getD v7 (Int.toNat v3) (dflt .api_Node)).keys, (List.getD v7 (Int.toNat v3) (dflt .api_Node)).kids⟩⟩ : fields) [114, 101, 115, 116, 97, 114, 116]); bif (d104_k (⟨⟨(List.getD v7 (Int.toNat v3) (dflt .api_Node)).kind, (List.getD v7 (Int.toNat v3) (dflt .api_Node)).text, (List.getD v7 (Int.toNat v3) (dflt .api_Node)).keys, (List.getD v7 (Int.toNat v3) (dflt .api_Node)).kids⟩⟩ : fields) [114, 101, 113, 117, 105, 114, 101, 100]) then (let y12 : fields := (d104_r0 (⟨⟨(List.getD v7 (Int.toNat v3) (dflt .api_Node)).kind, (List.getD v7 (Int.toNat v3) (dflt .api_Node)).text, (List.getD v7 (Int.toNat v3) (dflt .api_Node)).keys, (List.getD v7 (Int.toNat v3) (dflt .api_Node)).kids⟩⟩ : fields) [114, 101, 113, 117, 105, 114, 101, 100]); bif (decide ((v0.length + ([(⟨(List.getD v1 (Int.toNat v3) (dflt .str)), y10, (y11.node.text == ([116, 114, 117, 101] : List UInt8)), (y12.node.text == ([116, 114, 117, 101] : List UInt8))⟩ : Dep)] : List Dep).length) * 32 ≤ maxBytes)) then G 0 (d138_C0 (v0 ++ ([(⟨(List.getD v1 (Int.toNat v3) (dflt .str)), y10, (y11.node.text == ([116, 114, 117, 101] : List UInt8)), (y12.node.text == ([116, 114, 117, 101] : List UInt8))⟩ : Dep)] : List Dep)) v1 v2 (w64 (v3 + (1 : Int))) v4 v5 v6 v7) else none) else none) else none) else none) else none) else none) else none) else none) else some [⟨.l_api_Dep, v0⟩]
theorem d138_l0 (G : Nat → ASt E → Option (List (TV E))) (v0 : List Dep) (v1 : List (List UInt8)) (v2 v3 v4 : Int) (v5 : List UInt8) (v6 : List (List UInt8)) (v7 : List Node) : runL d138_O d138_H G Tryz.f138 0 (d138_C0 v0 v1 v2 v3 v4 v5 v6 v7) = d138_t0 G v0 v1 v2 v3 v4 v5 v6 v7 := by kernel_rfl
theorem d138_f : Tryz.prog.funcs[138]? = some Tryz.f138 := by kernel_rfl
theorem d138_n : (Tryz.f138.name == "runtime.NumGoroutine") = false := by kernel_rfl
theorem d138_b : Tryz.f138.body.isNone = false := by kernel_rfl
theorem d138_hO : OracleOk E d138_O := orac_ok (.cons d104_ok (.cons d145_ok (.cons d127_ok .nil))) .nil .nil .nil
theorem d138_s0 {res : List (TV E)} {v0 : List Dep} {v1 : List (List UInt8)} {v2 v3 v4 : Int} {v5 : List UInt8} {v6 : List (List UInt8)} {v7 : List Node} (h : d138_t0 (Gr E Tryz.f138 res) v0 v1 v2 v3 v4 v5 v6 v7 = some res) : Ev E Tryz.f138 res 0 (d138_C0 v0 v1 v2 v3 v4 v5 v6 v7) := Ev.step d138_hO mix ((d138_l0 _ v0 v1 v2 v3 v4 v5 v6 v7).trans h)
theorem d138_ok_of (h : ∀ (x0 : fields), d138_k x0 = true → d138_t (Gr E Tryz.f138 [⟨.l_api_Dep, d138_r0 x0⟩]) x0 = some [⟨.l_api_Dep, d138_r0 x0⟩]) : FnOk E d138_id d138_W := fn1_ok d138_hO mix d138_f d138_n d138_b (fun x0 hk => (d138_e _ x0).trans (h x0 hk))
theorem d138_v (f : Nat) : (∀ (v0 : List Dep) (v1 : List (List UInt8)) (v2 : Int) (v3 : Int) (v4 : Int) (v5 : List UInt8) (v6 : List (List UInt8)) (v7 : List Node) (r : (List Dep)), d138_m0 f v0 v1 v2 v3 v4 v5 v6 v7 = some r → Ev E Tryz.f138 [⟨.l_api_Dep, r⟩] 0 (d138_C0 v0 v1 v2 v3 v4 v5 v6 v7)) := by
  induction f with
  | zero => exact (fun _ _ _ _ _ _ _ _ _ h => by cases h)
  | succ f ih =>
    exact (fun v0 v1 v2 v3 v4 v5 v6 v7 r h => d138_s0 (by unfold d138_m0 at h; unfold d138_t0; exact (bif2 h (fun h => (bif2 h (fun h => (bif2 h (fun h => (bif2 h (fun h => (bif2 h (fun h => (bif2 h (fun h => (bif2 h (fun h => (bif2 h (fun h => (bif2 h (fun h => (Gr_of (ih _ _ _ _ _ _ _ _ _ h))) fun h => (by cases h))) fun h => (by cases h))) fun h => (by cases h))) fun h => (by cases h))) fun h => (by cases h))) fun h => (by cases h))) fun h => (by cases h))) fun h => (by cases h))) fun h => (by have h := Option.some.inj h; subst h; exact rfl))))
theorem d138_ok : FnOk E d138_id d138_W := d138_ok_of fun x0 hk => by
  have h := some_of (d := (dflt .l_api_Dep)) hk
  unfold d138_t
  generalize hr : (d138_m x0).getD (dflt .l_api_Dep) = r at h
  rw [show d138_r0 x0 = r from hr];
  unfold d138_m at h
  exact (Gr_of ((d138_v _) _ _ _ _ _ _ _ _ _ h))
noncomputable def d139_m (x0 : fields) : Option (Check) := bif (d104_k (⟨(⟨x0.node.kind, x0.node.text, x0.node.keys, x0.node.kids⟩ : Node)⟩ : fields) ([116, 101, 115, 116] : List UInt8)) then (let y1 : fields := (d104_r0 (⟨(⟨x0.node.kind, x0.node.text, x0.node.keys, x0.node.kids⟩ : Node)⟩ : fields) ([116, 101, 115, 116] : List UInt8)); bif (y1.node.text == ([] : List UInt8)) then (some ((⟨([] : List UInt8), (0 : Int), (0 : Int), (0 : Int)⟩ : Check))) else (bif (d104_k (⟨(⟨x0.node.kind, x0.node.text, x0.node.keys, x0.node.kids⟩ : Node)⟩ : fields) ([105, 110, 116, 101, 114, 118, 97, 108] : List UInt8)) then (let y2 : fields := (d104_r0 (⟨(⟨x0.node.kind, x0.node.text, x0.node.keys, x0.node.kids⟩ : Node)⟩ : fields) ([105, 110, 116, 101, 114, 118, 97, 108] : List UInt8)); bif (d105_k y2 ([49, 115] : List UInt8)) then (let y3 : List UInt8 := (d105_r0 y2 ([49, 115] : List UInt8)); bif (d184_k y3) then (bif (d104_k (⟨(⟨x0.node.kind, x0.node.text, x0.node.keys, x0.node.kids⟩ : Node)⟩ : fields) ([115, 116, 97, 114, 116, 95, 112, 101, 114, 105, 111, 100] : List UInt8)) then (let y4 : fields := (d104_r0 (⟨(⟨x0.node.kind, x0.node.text, x0.node.keys, x0.node.kids⟩ : Node)⟩ : fields) ([115, 116, 97, 114, 116, 95, 112, 101, 114, 105, 111, 100] : List UInt8)); bif (d105_k y4 ([48, 115] : List UInt8)) then (let y5 : List UInt8 := (d105_r0 y4 ([48, 115] : List UInt8)); bif (d184_k y5) then (bif (d104_k (⟨(⟨x0.node.kind, x0.node.text, x0.node.keys, x0.node.kids⟩ : Node)⟩ : fields) ([114, 101, 116, 114, 105, 101, 115] : List UInt8)) then (let y6 : fields := (d104_r0 (⟨(⟨x0.node.kind, x0.node.text, x0.node.keys, x0.node.kids⟩ : Node)⟩ : fields) ([114, 101, 116, 114, 105, 101, 115] : List UInt8)); bif (d105_k y6 ([51] : List UInt8)) then (let y7 : List UInt8 := (d105_r0 y6 ([51] : List UInt8)); bif (d143_k y7 (10 : Int)) then (let y8 : Int := (d143_r0 y7 (10 : Int)); let y9 : Int := (d143_r1 y7 (10 : Int)); some ((⟨y1.node.text, (d184_r0 y3), (d184_r0 y5), y8⟩ : Check))) else (none)) else (none)) else (none)) else (none)) else (none)) else (none)) else (none)) else (none)) else (none))) else (none)
noncomputable def d139_k (x0 : fields) : Bool := (d139_m x0).isSome
noncomputable def d139_r0 (x0 : fields) : Check := ((d139_m x0).getD (dflt .api_Check))
noncomputable def d139_W : FnW E := fn1 (E := E) .load_fields .api_Check d139_k d139_r0
def d139_id : FuncId := 139
noncomputable def d139_O : Oracle E := orac [(104, d104_W), (105, d105_W), (143, d143_W), (184, d184_W)] [] [] []
noncomputable def d139_H : Hint E := Hint.mk [] [] [] [] [] 5 []
noncomputable def d139_t (_G : Nat → ASt E → Option (List (TV E))) (x0 : fields) : Option (List (TV E)) :=
  bif (d104_k (⟨⟨x0.node.kind, x0.node.text, x0.node.keys, x0.node.kids⟩⟩ : fields) [116, 101, 115, 116]) then (let y1 : fields := (d104_r0 (⟨⟨x0.node.kind, x0.node.text, x0.node.keys, x0.node.kids⟩⟩ : fields) [116, 101, 115, 116]); bif (y1.node.text == ([] : List UInt8)) then some [⟨.api_Check, (⟨[], 0, 0, 0⟩ : Check)⟩] else (bif (d104_k (⟨⟨x0.node.kind, x0.node.text, x0.node.keys, x0.node.kids⟩⟩ : fields) [105, 110, 116, 101, 114, 118, 97, 108]) then (let y2 : fields := (d104_r0 (⟨⟨x0.node.kind, x0.node.text, x0.node.keys, x0.node.kids⟩⟩ : fields) [105, 110, 116, 101, 114, 118, 97, 108]); bif (d105_k y2 [49, 115]) then (let y3 : List UInt8 := (d105_r0 y2 [49, 115]); bif (d184_k y3) then (bif (d104_k (⟨⟨x0.node.kind, x0.node.text, x0.node.keys, x0.node.kids⟩⟩ : fields) [115, 116, 97, 114, 116, 95, 112, 101, 114, 105, 111, 100]) then (let y4 : fields := (d104_r0 (⟨⟨x0.node.kind, x0.node.text, x0.node.keys, x0.node.kids⟩⟩ : fields) [115, 116, 97, 114, 116, 95, 112, 101, 114, 105, 111, 100]); bif (d105_k y4 [48, 115]) then (let y5 : List UInt8 := (d105_r0 y4 [48, 115]); bif (d184_k y5) then (bif (d104_k (⟨⟨x0.node.kind, x0.node.text, x0.node.keys, x0.node.kids⟩⟩ : fields) [114, 101, 116, 114, 105, 101, 115]) then (let y6 : fields := (d104_r0 (⟨⟨x0.node.kind, x0.node.text, x0.node.keys, x0.node.kids⟩⟩ : fields) [114, 101, 116, 114, 105, 101, 115]); bif (d105_k y6 [51]) then (let y7 : List UInt8 := (d105_r0 y6 [51]); bif (d143_k y7 10) then (let y8 : Int := (d143_r0 y7 10); let y9 : Int := (d143_r1 y7 10); some [⟨.api_Check, (⟨y1.node.text, (d184_r0 y3), (d184_r0 y5), y8⟩ : Check)⟩]) else none) else none) else none) else none) else none) else none) else none) else none) else none)) else none
theorem d139_e (G : Nat → ASt E → Option (List (TV E))) (x0 : fields) : runE d139_O d139_H G Tryz.f139 [⟨.load_fields, x0⟩] = d139_t G x0 := by kernel_rfl
theorem d139_f : Tryz.prog.funcs[139]? = some Tryz.f139 := by kernel_rfl
theorem d139_n : (Tryz.f139.name == "runtime.NumGoroutine") = false := by kernel_rfl
theorem d139_b : Tryz.f139.body.isNone = false := by kernel_rfl
theorem d139_hO : OracleOk E d139_O := orac_ok (.cons d104_ok (.cons d105_ok (.cons d143_ok (.cons d184_ok .nil)))) .nil .nil .nil
theorem d139_ok_of (h : ∀ (x0 : fields), d139_k x0 = true → d139_t (Gr E Tryz.f139 [⟨.api_Check, d139_r0 x0⟩]) x0 = some [⟨.api_Check, d139_r0 x0⟩]) : FnOk E d139_id d139_W := fn1_ok d139_hO mix d139_f d139_n d139_b (fun x0 hk => (d139_e _ x0).trans (h x0 hk))
theorem d139_ok : FnOk E d139_id d139_W := d139_ok_of fun x0 hk => by
  have h := some_of (d := (dflt .api_Check)) hk
  unfold d139_t
  generalize hr : (d139_m x0).getD (dflt .api_Check) = r at h
  rw [show d139_r0 x0 = r from hr];
  unfold d139_m at h
  exact (bif2 h (fun h => (bif2 h (fun h => (by have h := Option.some.inj h; subst h; exact rfl)) fun h => (bif2 h (fun h => (bif2 h (fun h => (bif2 h (fun h => (bif2 h (fun h => (bif2 h (fun h => (bif2 h (fun h => (bif2 h (fun h => (bif2 h (fun h => (bif2 h (fun h => (by have h := Option.some.inj h; subst h; exact rfl)) fun h => (by cases h))) fun h => (by cases h))) fun h => (by cases h))) fun h => (by cases h))) fun h => (by cases h))) fun h => (by cases h))) fun h => (by cases h))) fun h => (by cases h))) fun h => (by cases h)))) fun h => (by cases h))
noncomputable def d74_m (x0 : Int) : Option (Int) := bif (decide ((4294967296 : Int) ≤ x0)) then (bif (decide ((0 : Int) ≤ (32 : Int)) && decide ((32 : Int) ≤ (64 : Int))) then (bif (decide ((65536 : Int) ≤ (x0 / 2 ^ (Int.toNat (32 : Int))))) then (bif (decide ((0 : Int) ≤ (16 : Int)) && decide ((16 : Int) ≤ (64 : Int))) then (bif (decide ((256 : Int) ≤ ((x0 / 2 ^ (Int.toNat (32 : Int))) / 2 ^ (Int.toNat (16 : Int))))) then (bif (decide ((0 : Int) ≤ (8 : Int)) && decide ((8 : Int) ≤ (64 : Int))) then (bif (decide ((0 : Int) ≤ (IntKind.wrap .u8 (((x0 / 2 ^ (Int.toNat (32 : Int))) / 2 ^ (Int.toNat (16 : Int))) / 2 ^ (Int.toNat (8 : Int))))) && decide ((IntKind.wrap .u8 (((x0 / 2 ^ (Int.toNat (32 : Int))) / 2 ^ (Int.toNat (16 : Int))) / 2 ^ (Int.toNat (8 : Int)))) < (([0, 1, 2, 2, 3, 3, 3, 3, 4, 4, 4, 4, 4, 4, 4, 4, 5, 5, 5, 5, 5, 5, 5, 5, 5, 5, 5, 5, 5, 5, 5, 5, 6, 6, 6, 6, 6, 6, 6, 6, 6, 6, 6, 6, 6, 6, 6, 6, 6, 6, 6, 6, 6, 6, 6, 6, 6, 6, 6, 6, 6, 6, 6, 6, 7, 7, 7, 7, 7, 7, 7, 7, 7, 7, 7, 7, 7, 7, 7, 7, 7, 7, 7, 7, 7, 7, 7, 7, 7, 7, 7, 7, 7, 7, 7, 7, 7, 7, 7, 7, 7, 7, 7, 7, 7, 7, 7, 7, 7, 7, 7, 7, 7, 7, 7, 7, 7, 7, 7, 7, 7, 7, 7, 7, 7, 7, 7, 7, 8, 8, 8, 8, 8, 8, 8, 8, 8, 8, 8, 8, 8, 8, 8, 8, 8, 8, 8, 8, 8, 8, 8, 8, 8, 8, 8, 8, 8, 8, 8, 8, 8, 8, 8, 8, 8, 8, 8, 8, 8, 8, 8, 8, 8, 8, 8, 8, 8, 8, 8, 8, 8, 8, 8, 8, 8, 8, 8, 8, 8, 8, 8, 8, 8, 8, 8, 8, 8, 8, 8, 8, 8, 8, 8, 8, 8, 8, 8, 8, 8, 8, 8, 8, 8, 8, 8, 8, 8, 8, 8, 8, 8, 8, 8, 8, 8, 8, 8, 8, 8, 8, 8, 8, 8, 8, 8, 8, 8, 8, 8, 8, 8, 8, 8, 8, 8, 8, 8, 8, 8, 8, 8, 8, 8, 8, 8, 8] : List UInt8).length : Int))) then (some ((w64 ((56 : Int) + (w64 (((List.getD ([0, 1, 2, 2, 3, 3, 3, 3, 4, 4, 4, 4, 4, 4, 4, 4, 5, 5, 5, 5, 5, 5, 5, 5, 5, 5, 5, 5, 5, 5, 5, 5, 6, 6, 6, 6, 6, 6, 6, 6, 6, 6, 6, 6, 6, 6, 6, 6, 6, 6, 6, 6, 6, 6, 6, 6, 6, 6, 6, 6, 6, 6, 6, 6, 7, 7, 7, 7, 7, 7, 7, 7, 7, 7, 7, 7, 7, 7, 7, 7, 7, 7, 7, 7, 7, 7, 7, 7, 7, 7, 7, 7, 7, 7, 7, 7, 7, 7, 7, 7, 7, 7, 7, 7, 7, 7, 7, 7, 7, 7, 7, 7, 7, 7, 7, 7, 7, 7, 7, 7, 7, 7, 7, 7, 7, 7, 7, 7, 8, 8, 8, 8, 8, 8, 8, 8, 8, 8, 8, 8, 8, 8, 8, 8, 8, 8, 8, 8, 8, 8, 8, 8, 8, 8, 8, 8, 8, 8, 8, 8, 8, 8, 8, 8, 8, 8, 8, 8, 8, 8, 8, 8, 8, 8, 8, 8, 8, 8, 8, 8, 8, 8, 8, 8, 8, 8, 8, 8, 8, 8, 8, 8, 8, 8, 8, 8, 8, 8, 8, 8, 8, 8, 8, 8, 8, 8, 8, 8, 8, 8, 8, 8, 8, 8, 8, 8, 8, 8, 8, 8, 8, 8, 8, 8, 8, 8, 8, 8, 8, 8, 8, 8, 8, 8, 8, 8, 8, 8, 8, 8, 8, 8, 8, 8, 8, 8, 8, 8, 8, 8, 8, 8, 8, 8, 8, 8] : List UInt8) (Int.toNat (IntKind.wrap .u8 (((x0 / 2 ^ (Int.toNat (32 : Int))) / 2 ^ (Int.toNat (16 : Int))) / 2 ^ (Int.toNat (8 : Int))))) 0).toNat : Nat) : Int)))))) else (none)) else (none)) else (bif (decide ((0 : Int) ≤ (IntKind.wrap .u8 ((x0 / 2 ^ (Int.toNat (32 : Int))) / 2 ^ (Int.toNat (16 : Int))))) && decide ((IntKind.wrap .u8 ((x0 / 2 ^ (Int.toNat (32 : Int))) / 2 ^ (Int.toNat (16 : Int)))) < (([0, 1, 2, 2, 3, 3, 3, 3, 4, 4, 4, 4, 4, 4, 4, 4, 5, 5, 5, 5, 5, 5, 5, 5, 5, 5, 5, 5, 5, 5, 5, 5, 6, 6, 6, 6, 6, 6, 6, 6, 6, 6, 6, 6, 6, 6, 6, 6, 6, 6, 6, 6, 6, 6, 6, 6, 6, 6, 6, 6, 6, 6, 6, 6, 7, 7, 7, 7, 7, 7, 7, 7, 7, 7, 7, 7, 7, 7, 7, 7, 7, 7, 7, 7, 7, 7, 7, 7, 7, 7, 7, 7, 7, 7, 7, 7, 7, 7, 7, 7, 7, 7, 7, 7, 7, 7, 7, 7, 7, 7, 7, 7, 7, 7, 7, 7, 7, 7, 7, 7, 7, 7, 7, 7, 7, 7, 7, 7, 8, 8, 8, 8, 8, 8, 8, 8, 8, 8, 8, 8, 8, 8, 8, 8, 8, 8, 8, 8, 8, 8, 8, 8, 8, 8, 8, 8, 8, 8, 8, 8, 8, 8, 8, 8, 8, 8, 8, 8, 8, 8, 8, 8, 8, 8, 8, 8, 8, 8, 8, 8, 8, 8, 8, 8, 8, 8, 8, 8, 8, 8, 8, 8, 8, 8, 8, 8, 8, 8, 8, 8, 8, 8, 8, 8, 8, 8, 8, 8, 8, 8, 8, 8, 8, 8, 8, 8, 8, 8, 8, 8, 8, 8, 8, 8, 8, 8, 8, 8, 8, 8, 8, 8, 8, 8, 8, 8, 8, 8, 8, 8, 8, 8, 8, 8, 8, 8, 8, 8, 8, 8, 8, 8, 8, 8, 8, 8] : List UInt8).length : Int))) then (some ((w64 ((48 : Int) + (w64 (((List.getD ([0, 1, 2, 2, 3, 3, 3, 3, 4, 4, 4, 4, 4, 4, 4, 4, 5, 5, 5, 5, 5, 5, 5, 5, 5, 5, 5, 5, 5, 5, 5, 5, 6, 6, 6, 6, 6, 6, 6, 6, 6, 6, 6, 6, 6, 6, 6, 6, 6, 6, 6, 6, 6, 6, 6, 6, 6, 6, 6, 6, 6, 6, 6, 6, 7, 7, 7, 7, 7, 7, 7, 7, 7, 7, 7, 7, 7, 7, 7, 7, 7, 7, 7, 7, 7, 7, 7, 7, 7, 7, 7, 7, 7, 7, 7, 7, 7, 7, 7, 7, 7, 7, 7, 7, 7, 7, 7, 7, 7, 7, 7, 7, 7, 7, 7, 7, 7, 7, 7, 7, 7, 7, 7, 7, 7, 7, 7, 7, 8, 8, 8, 8, 8, 8, 8, 8, 8, 8, 8, 8, 8, 8, 8, 8, 8, 8, 8, 8, 8, 8, 8, 8, 8, 8, 8, 8, 8, 8, 8, 8, 8, 8, 8, 8, 8, 8, 8, 8, 8, 8, 8, 8, 8, 8, 8, 8, 8, 8, 8, 8, 8, 8, 8, 8, 8, 8, 8, 8, 8, 8, 8, 8, 8, 8, 8, 8, 8, 8, 8, 8, 8, 8, 8, 8, 8, 8, 8, 8, 8, 8, 8, 8, 8, 8, 8, 8, 8, 8, 8, 8, 8, 8, 8, 8, 8, 8, 8, 8, 8, 8, 8, 8, 8, 8, 8, 8, 8, 8, 8, 8, 8, 8, 8, 8, 8, 8, 8, 8, 8, 8, 8, 8, 8, 8, 8, 8] : List UInt8) (Int.toNat (IntKind.wrap .u8 ((x0 / 2 ^ (Int.toNat (32 : Int))) / 2 ^ (Int.toNat (16 : Int))))) 0).toNat : Nat) : Int)))))) else (none))) else (none)) else (bif (decide ((256 : Int) ≤ (x0 / 2 ^ (Int.toNat (32 : Int))))) then (bif (decide ((0 : Int) ≤ (8 : Int)) && decide ((8 : Int) ≤ (64 : Int))) then (bif (decide ((0 : Int) ≤ (IntKind.wrap .u8 ((x0 / 2 ^ (Int.toNat (32 : Int))) / 2 ^ (Int.toNat (8 : Int))))) && decide ((IntKind.wrap .u8 ((x0 / 2 ^ (Int.toNat (32 : Int))) / 2 ^ (Int.toNat (8 : Int)))) < (([0, 1, 2, 2, 3, 3, 3, 3, 4, 4, 4, 4, 4, 4, 4, 4, 5, 5, 5, 5, 5, 5, 5, 5, 5, 5, 5, 5, 5, 5, 5, 5, 6, 6, 6, 6, 6, 6, 6, 6, 6, 6, 6, 6, 6, 6, 6, 6, 6, 6, 6, 6, 6, 6, 6, 6, 6, 6, 6, 6, 6, 6, 6, 6, 7, 7, 7, 7, 7, 7, 7, 7, 7, 7, 7, 7, 7, 7, 7, 7, 7, 7, 7, 7, 7, 7, 7, 7, 7, 7, 7, 7, 7, 7, 7, 7, 7, 7, 7, 7, 7, 7, 7, 7, 7, 7, 7, 7, 7, 7, 7, 7, 7, 7, 7, 7, 7, 7, 7, 7, 7, 7, 7, 7, 7, 7, 7, 7, 8, 8, 8, 8, 8, 8, 8, 8, 8, 8, 8, 8, 8, 8, 8, 8, 8, 8, 8, 8, 8, 8, 8, 8, 8, 8, 8, 8, 8, 8, 8, 8, 8, 8, 8, 8, 8, 8, 8, 8, 8, 8, 8, 8, 8, 8, 8, 8, 8, 8, 8, 8, 8, 8, 8, 8, 8, 8, 8, 8, 8, 8, 8, 8, 8, 8, 8, 8, 8, 8, 8, 8, 8, 8, 8, 8, 8, 8, 8, 8, 8, 8, 8, 8, 8, 8, 8, 8, 8, 8, 8, 8, 8, 8, 8, 8, 8, 8, 8, 8, 8, 8, 8, 8, 8, 8, 8, 8, 8, 8, 8, 8, 8, 8, 8, 8, 8, 8, 8, 8, 8, 8, 8, 8, 8, 8, 8, 8] : List UInt8).length : Int))) then (some ((w64 ((40 : Int) + (w64 (((List.getD ([0, 1, 2, 2, 3, 3, 3, 3, 4, 4, 4, 4, 4, 4, 4, 4, 5, 5, 5, 5, 5, 5, 5, 5, 5, 5, 5, 5, 5, 5, 5, 5, 6, 6, 6, 6, 6, 6, 6, 6, 6, 6, 6, 6, 6, 6, 6, 6, 6, 6, 6, 6, 6, 6, 6, 6, 6, 6, 6, 6, 6, 6, 6, 6, 7, 7, 7, 7, 7, 7, 7, 7, 7, 7, 7, 7, 7, 7, 7, 7, 7, 7, 7, 7, 7, 7, 7, 7, 7, 7, 7, 7, 7, 7, 7, 7, 7, 7, 7, 7, 7, 7, 7, 7, 7, 7, 7, 7, 7, 7, 7, 7, 7, 7, 7, 7, 7, 7, 7, 7, 7, 7, 7, 7, 7, 7, 7, 7, 8, 8, 8, 8, 8, 8, 8, 8, 8, 8, 8, 8, 8, 8, 8, 8, 8, 8, 8, 8, 8, 8, 8, 8, 8, 8, 8, 8, 8, 8, 8, 8, 8, 8, 8, 8, 8, 8, 8, 8, 8, 8, 8, 8, 8, 8, 8, 8, 8, 8, 8, 8, 8, 8, 8, 8, 8, 8, 8, 8, 8, 8, 8, 8, 8, 8, 8, 8, 8, 8, 8, 8, 8, 8, 8, 8, 8, 8, 8, 8, 8, 8, 8, 8, 8, 8, 8, 8, 8, 8, 8, 8, 8, 8, 8, 8, 8, 8, 8, 8, 8, 8, 8, 8, 8, 8, 8, 8, 8, 8, 8, 8, 8, 8, 8, 8, 8, 8, 8, 8, 8, 8, 8, 8, 8, 8, 8, 8] : List UInt8) (Int.toNat (IntKind.wrap .u8 ((x0 / 2 ^ (Int.toNat (32 : Int))) / 2 ^ (Int.toNat (8 : Int))))) 0).toNat : Nat) : Int)))))) else (none)) else (none)) else (bif (decide ((0 : Int) ≤ (IntKind.wrap .u8 (x0 / 2 ^ (Int.toNat (32 : Int))))) && decide ((IntKind.wrap .u8 (x0 / 2 ^ (Int.toNat (32 : Int)))) < (([0, 1, 2, 2, 3, 3, 3, 3, 4, 4, 4, 4, 4, 4, 4, 4, 5, 5, 5, 5, 5, 5, 5, 5, 5, 5, 5, 5, 5, 5, 5, 5, 6, 6, 6, 6, 6, 6, 6, 6, 6, 6, 6, 6, 6, 6, 6, 6, 6, 6, 6, 6, 6, 6, 6, 6, 6, 6, 6, 6, 6, 6, 6, 6, 7, 7, 7, 7, 7, 7, 7, 7, 7, 7, 7, 7, 7, 7, 7, 7, 7, 7, 7, 7, 7, 7, 7, 7, 7, 7, 7, 7, 7, 7, 7, 7, 7, 7, 7, 7, 7, 7, 7, 7, 7, 7, 7, 7, 7, 7, 7, 7, 7, 7, 7, 7, 7, 7, 7, 7, 7, 7, 7, 7, 7, 7, 7, 7, 8, 8, 8, 8, 8, 8, 8, 8, 8, 8, 8, 8, 8, 8, 8, 8, 8, 8, 8, 8, 8, 8, 8, 8, 8, 8, 8, 8, 8, 8, 8, 8, 8, 8, 8, 8, 8, 8, 8, 8, 8, 8, 8, 8, 8, 8, 8, 8, 8, 8, 8, 8, 8, 8, 8, 8, 8, 8, 8, 8, 8, 8, 8, 8, 8, 8, 8, 8, 8, 8, 8, 8, 8, 8, 8, 8, 8, 8, 8, 8, 8, 8, 8, 8, 8, 8, 8, 8, 8, 8, 8, 8, 8, 8, 8, 8, 8, 8, 8, 8, 8, 8, 8, 8, 8, 8, 8, 8, 8, 8, 8, 8, 8, 8, 8, 8, 8, 8, 8, 8, 8, 8, 8, 8, 8, 8, 8, 8] : List UInt8).length : Int))) then (some ((w64 ((32 : Int) + (w64 (((List.getD ([0, 1, 2, 2, 3, 3, 3, 3, 4, 4, 4, 4, 4, 4, 4, 4, 5, 5, 5, 5, 5, 5, 5, 5, 5, 5, 5, 5, 5, 5, 5, 5, 6, 6, 6, 6, 6, 6, 6, 6, 6, 6, 6, 6, 6, 6, 6, 6, 6, 6, 6, 6, 6, 6, 6, 6, 6, 6, 6, 6, 6, 6, 6, 6, 7, 7, 7, 7, 7, 7, 7, 7, 7, 7, 7, 7, 7, 7, 7, 7, 7, 7, 7, 7, 7, 7, 7, 7, 7, 7, 7, 7, 7, 7, 7, 7, 7, 7, 7, 7, 7, 7, 7, 7, 7, 7, 7, 7, 7, 7, 7, 7, 7, 7, 7, 7, 7, 7, 7, 7, 7, 7, 7, 7, 7, 7, 7, 7, 8, 8, 8, 8, 8, 8, 8, 8, 8, 8, 8, 8, 8, 8, 8, 8, 8, 8, 8, 8, 8, 8, 8, 8, 8, 8, 8, 8, 8, 8, 8, 8, 8, 8, 8, 8, 8, 8, 8, 8, 8, 8, 8, 8, 8, 8, 8, 8, 8, 8, 8, 8, 8, 8, 8, 8, 8, 8, 8, 8, 8, 8, 8, 8, 8, 8, 8, 8, 8, 8, 8, 8, 8, 8, 8, 8, 8, 8, 8, 8, 8, 8, 8, 8, 8, 8, 8, 8, 8, 8, 8, 8, 8, 8, 8, 8, 8, 8, 8, 8, 8, 8, 8, 8, 8, 8, 8, 8, 8, 8, 8, 8, 8, 8, 8, 8, 8, 8, 8, 8, 8, 8, 8, 8, 8, 8, 8, 8] : List UInt8) (Int.toNat (IntKind.wrap .u8 (x0 / 2 ^ (Int.toNat (32 : Int))))) 0).toNat : Nat) : Int)))))) else (none)))) else (none)) else (bif (decide ((65536 : Int) ≤ x0)) then (bif (decide ((0 : Int) ≤ (16 : Int)) && decide ((16 : Int) ≤ (64 : Int))) then (bif (decide ((256 : Int) ≤ (x0 / 2 ^ (Int.toNat (16 : Int))))) then (bif (decide ((0 : Int) ≤ (8 : Int)) && decide ((8 : Int) ≤ (64 : Int))) then (bif (decide ((0 : Int) ≤ (IntKind.wrap .u8 ((x0 / 2 ^ (Int.toNat (16 : Int))) / 2 ^ (Int.toNat (8 : Int))))) && decide ((IntKind.wrap .u8 ((x0 / 2 ^ (Int.toNat (16 : Int))) / 2 ^ (Int.toNat (8 : Int)))) < (([0, 1, 2, 2, 3, 3, 3, 3, 4, 4, 4, 4, 4, 4, 4, 4, 5, 5, 5, 5, 5, 5, 5, 5, 5, 5, 5, 5, 5, 5, 5, 5, 6, 6, 6, 6, 6, 6, 6, 6, 6, 6, 6, 6, 6, 6, 6, 6, 6, 6, 6, 6, 6, 6, 6, 6, 6, 6, 6, 6, 6, 6, 6, 6, 7, 7, 7, 7, 7, 7, 7, 7, 7, 7, 7, 7, 7, 7, 7, 7, 7, 7, 7, 7, 7, 7, 7, 7, 7, 7, 7, 7, 7, 7, 7, 7, 7, 7, 7, 7, 7, 7, 7, 7, 7, 7, 7, 7, 7, 7, 7, 7, 7, 7, 7, 7, 7, 7, 7, 7, 7, 7, 7, 7, 7, 7, 7, 7, 8, 8, 8, 8, 8, 8, 8, 8, 8, 8, 8, 8, 8, 8, 8, 8, 8, 8, 8, 8, 8, 8, 8, 8, 8, 8, 8, 8, 8, 8, 8, 8, 8, 8, 8, 8, 8, 8, 8, 8, 8, 8, 8, 8, 8, 8, 8, 8, 8, 8, 8, 8, 8, 8, 8, 8, 8, 8, 8, 8, 8, 8, 8, 8, 8, 8, 8, 8, 8, 8, 8, 8, 8, 8, 8, 8, 8, 8, 8, 8, 8, 8, 8, 8, 8, 8, 8, 8, 8, 8, 8, 8, 8, 8, 8, 8, 8, 8, 8, 8, 8, 8, 8, 8, 8, 8, 8, 8, 8, 8, 8, 8, 8, 8, 8, 8, 8, 8, 8, 8, 8, 8, 8, 8, 8, 8, 8, 8] : List UInt8).length : Int))) then (some ((w64 ((24 : Int) + (w64 (((List.getD ([0, 1, 2, 2, 3, 3, 3, 3, 4, 4, 4, 4, 4, 4, 4, 4, 5, 5, 5, 5, 5, 5, 5, 5, 5, 5, 5, 5, 5, 5, 5, 5, 6, 6, 6, 6, 6, 6, 6, 6, 6, 6, 6, 6, 6, 6, 6, 6, 6, 6, 6, 6, 6, 6, 6, 6, 6, 6, 6, 6, 6, 6, 6, 6, 7, 7, 7, 7, 7, 7, 7, 7, 7, 7, 7, 7, 7, 7, 7, 7, 7, 7, 7, 7, 7, 7, 7, 7, 7, 7, 7, 7, 7, 7, 7, 7, 7, 7, 7, 7, 7, 7, 7, 7, 7, 7, 7, 7, 7, 7, 7, 7, 7, 7, 7, 7, 7, 7, 7, 7, 7, 7, 7, 7, 7, 7, 7, 7, 8, 8, 8, 8, 8, 8, 8, 8, 8, 8, 8, 8, 8, 8, 8, 8, 8, 8, 8, 8, 8, 8, 8, 8, 8, 8, 8, 8, 8, 8, 8, 8, 8, 8, 8, 8, 8, 8, 8, 8, 8, 8, 8, 8, 8, 8, 8, 8, 8, 8, 8, 8, 8, 8, 8, 8, 8, 8, 8, 8, 8, 8, 8, 8, 8, 8, 8, 8, 8, 8, 8, 8, 8, 8, 8, 8, 8, 8, 8, 8, 8, 8, 8, 8, 8, 8, 8, 8, 8, 8, 8, 8, 8, 8, 8, 8, 8, 8, 8, 8, 8, 8, 8, 8, 8, 8, 8, 8, 8, 8, 8, 8, 8, 8, 8, 8, 8, 8, 8, 8, 8, 8, 8, 8, 8, 8, 8, 8] : List UInt8) (Int.toNat (IntKind.wrap .u8 ((x0 / 2 ^ (Int.toNat (16 : Int))) / 2 ^ (Int.toNat (8 : Int))))) 0).toNat : Nat) : Int)))))) else (none)) else (none)) else (bif (decide ((0 : Int) ≤ (IntKind.wrap .u8 (x0 / 2 ^ (Int.toNat (16 : Int))))) && decide ((IntKind.wrap .u8 (x0 / 2 ^ (Int.toNat (16 : Int)))) < (([0, 1, 2, 2, 3, 3, 3, 3, 4, 4, 4, 4, 4, 4, 4, 4, 5, 5, 5, 5, 5, 5, 5, 5, 5, 5, 5, 5, 5, 5, 5, 5, 6, 6, 6, 6, 6, 6, 6, 6, 6, 6, 6, 6, 6, 6, 6, 6, 6, 6, 6, 6, 6, 6, 6, 6, 6, 6, 6, 6, 6, 6, 6, 6, 7, 7, 7, 7, 7, 7, 7, 7, 7, 7, 7, 7, 7, 7, 7, 7, 7, 7, 7, 7, 7, 7, 7, 7, 7, 7, 7, 7, 7, 7, 7, 7, 7, 7, 7, 7, 7, 7, 7, 7, 7, 7, 7, 7, 7, 7, 7, 7, 7, 7, 7, 7, 7, 7, 7, 7, 7, 7, 7, 7, 7, 7, 7, 7, 8, 8, 8, 8, 8, 8, 8, 8, 8, 8, 8, 8, 8, 8, 8, 8, 8, 8, 8, 8, 8, 8, 8, 8, 8, 8, 8, 8, 8, 8, 8, 8, 8, 8, 8, 8, 8, 8, 8, 8, 8, 8, 8, 8, 8, 8, 8, 8, 8, 8, 8, 8, 8, 8, 8, 8, 8, 8, 8, 8, 8, 8, 8, 8, 8, 8, 8, 8, 8, 8, 8, 8, 8, 8, 8, 8, 8, 8, 8, 8, 8, 8, 8, 8, 8, 8, 8, 8, 8, 8, 8, 8, 8, 8, 8, 8, 8, 8, 8, 8, 8, 8, 8, 8, 8, 8, 8, 8, 8, 8, 8, 8, 8, 8, 8, 8, 8, 8, 8, 8, 8, 8, 8, 8, 8, 8, 8, 8] : List UInt8).length : Int))) then (some ((w64 ((16 : Int) + (w64 (((List.getD ([0, 1, 2, 2, 3, 3, 3, 3, 4, 4, 4, 4, 4, 4, 4, 4, 5, 5, 5, 5, 5, 5, 5, 5, 5, 5, 5, 5, 5, 5, 5, 5, 6, 6, 6, 6, 6, 6, 6, 6, 6, 6, 6, 6, 6, 6, 6, 6, 6, 6, 6, 6, 6, 6, 6, 6, 6, 6, 6, 6, 6, 6, 6, 6, 7, 7, 7, 7, 7, 7, 7, 7, 7, 7, 7, 7, 7, 7, 7, 7, 7, 7, 7, 7, 7, 7, 7, 7, 7, 7, 7, 7, 7, 7, 7, 7, 7, 7, 7, 7, 7, 7, 7, 7, 7, 7, 7, 7, 7, 7, 7, 7, 7, 7, 7, 7, 7, 7, 7, 7, 7, 7, 7, 7, 7, 7, 7, 7, 8, 8, 8, 8, 8, 8, 8, 8, 8, 8, 8, 8, 8, 8, 8, 8, 8, 8, 8, 8, 8, 8, 8, 8, 8, 8, 8, 8, 8, 8, 8, 8, 8, 8, 8, 8, 8, 8, 8, 8, 8, 8, 8, 8, 8, 8, 8, 8, 8, 8, 8, 8, 8, 8, 8, 8, 8, 8, 8, 8, 8, 8, 8, 8, 8, 8, 8, 8, 8, 8, 8, 8, 8, 8, 8, 8, 8, 8, 8, 8, 8, 8, 8, 8, 8, 8, 8, 8, 8, 8, 8, 8, 8, 8, 8, 8, 8, 8, 8, 8, 8, 8, 8, 8, 8, 8, 8, 8, 8, 8, 8, 8, 8, 8, 8, 8, 8, 8, 8, 8, 8, 8, 8, 8, 8, 8, 8, 8] : List UInt8) (Int.toNat (IntKind.wrap .u8 (x0 / 2 ^ (Int.toNat (16 : Int))))) 0).toNat : Nat) : Int)))))) else (none))) else (none)) else (bif (decide ((256 : Int) ≤ x0)) then (bif (decide ((0 : Int) ≤ (8 : Int)) && decide ((8 : Int) ≤ (64 : Int))) then (bif (decide ((0 : Int) ≤ (IntKind.wrap .u8 (x0 / 2 ^ (Int.toNat (8 : Int))))) && decide ((IntKind.wrap .u8 (x0 / 2 ^ (Int.toNat (8 : Int)))) < (([0, 1, 2, 2, 3, 3, 3, 3, 4, 4, 4, 4, 4, 4, 4, 4, 5, 5, 5, 5, 5, 5, 5, 5, 5, 5, 5, 5, 5, 5, 5, 5, 6, 6, 6, 6, 6, 6, 6, 6, 6, 6, 6, 6, 6, 6, 6, 6, 6, 6, 6, 6, 6, 6, 6, 6, 6, 6, 6, 6, 6, 6, 6, 6, 7, 7, 7, 7, 7, 7, 7, 7, 7, 7, 7, 7, 7, 7, 7, 7, 7, 7, 7, 7, 7, 7, 7, 7, 7, 7, 7, 7, 7, 7, 7, 7, 7, 7, 7, 7, 7, 7, 7, 7, 7, 7, 7, 7, 7, 7, 7, 7, 7, 7, 7, 7, 7, 7, 7, 7, 7, 7, 7, 7, 7, 7, 7, 7, 8, 8, 8, 8, 8, 8, 8, 8, 8, 8, 8, 8, 8, 8, 8, 8, 8, 8, 8, 8, 8, 8, 8, 8, 8, 8, 8, 8, 8, 8, 8, 8, 8, 8, 8, 8, 8, 8, 8, 8, 8, 8, 8, 8, 8, 8, 8, 8, 8, 8, 8, 8, 8, 8, 8, 8, 8, 8, 8, 8, 8, 8, 8, 8, 8, 8, 8, 8, 8, 8, 8, 8, 8, 8, 8, 8, 8, 8, 8, 8, 8, 8, 8, 8, 8, 8, 8, 8, 8, 8, 8, 8, 8, 8, 8, 8, 8, 8, 8, 8, 8, 8, 8, 8, 8, 8, 8, 8, 8, 8, 8, 8, 8, 8, 8, 8, 8, 8, 8, 8, 8, 8, 8, 8, 8, 8, 8, 8] : List UInt8).length : Int))) then (some ((w64 ((8 : Int) + (w64 (((List.getD ([0, 1, 2, 2, 3, 3, 3, 3, 4, 4, 4, 4, 4, 4, 4, 4, 5, 5, 5, 5, 5, 5, 5, 5, 5, 5, 5, 5, 5, 5, 5, 5, 6, 6, 6, 6, 6, 6, 6, 6, 6, 6, 6, 6, 6, 6, 6, 6, 6, 6, 6, 6, 6, 6, 6, 6, 6, 6, 6, 6, 6, 6, 6, 6, 7, 7, 7, 7, 7, 7, 7, 7, 7, 7, 7, 7, 7, 7, 7, 7, 7, 7, 7, 7, 7, 7, 7, 7, 7, 7, 7, 7, 7, 7, 7, 7, 7, 7, 7, 7, 7, 7, 7, 7, 7, 7, 7, 7, 7, 7, 7, 7, 7, 7, 7, 7, 7, 7, 7, 7, 7, 7, 7, 7, 7, 7, 7, 7, 8, 8, 8, 8, 8, 8, 8, 8, 8, 8, 8, 8, 8, 8, 8, 8, 8, 8, 8, 8, 8, 8, 8, 8, 8, 8, 8, 8, 8, 8, 8, 8, 8, 8, 8, 8, 8, 8, 8, 8, 8, 8, 8, 8, 8, 8, 8, 8, 8, 8, 8, 8, 8, 8, 8, 8, 8, 8, 8, 8, 8, 8, 8, 8, 8, 8, 8, 8, 8, 8, 8, 8, 8, 8, 8, 8, 8, 8, 8, 8, 8, 8, 8, 8, 8, 8, 8, 8, 8, 8, 8, 8, 8, 8, 8, 8, 8, 8, 8, 8, 8, 8, 8, 8, 8, 8, 8, 8, 8, 8, 8, 8, 8, 8, 8, 8, 8, 8, 8, 8, 8, 8, 8, 8, 8, 8, 8, 8] : List UInt8) (Int.toNat (IntKind.wrap .u8 (x0 / 2 ^ (Int.toNat (8 : Int))))) 0).toNat : Nat) : Int)))))) else (none)) else (none)) else (bif (decide ((0 : Int) ≤ (IntKind.wrap .u8 x0)) && decide ((IntKind.wrap .u8 x0) < (([0, 1, 2, 2, 3, 3, 3, 3, 4, 4, 4, 4, 4, 4, 4, 4, 5, 5, 5, 5, 5, 5, 5, 5, 5, 5, 5, 5, 5, 5, 5, 5, 6, 6, 6, 6, 6, 6, 6, 6, 6, 6, 6, 6, 6, 6, 6, 6, 6, 6, 6, 6, 6, 6, 6, 6, 6, 6, 6, 6, 6, 6, 6, 6, 7, 7, 7, 7, 7, 7, 7, 7, 7, 7, 7, 7, 7, 7, 7, 7, 7, 7, 7, 7, 7, 7, 7, 7, 7, 7, 7, 7, 7, 7, 7, 7, 7, 7, 7, 7, 7, 7, 7, 7, 7, 7, 7, 7, 7, 7, 7, 7, 7, 7, 7, 7, 7, 7, 7, 7, 7, 7, 7, 7, 7, 7, 7, 7, 8, 8, 8, 8, 8, 8, 8, 8, 8, 8, 8, 8, 8, 8, 8, 8, 8, 8, 8, 8, 8, 8, 8, 8, 8, 8, 8, 8, 8, 8, 8, 8, 8, 8, 8, 8, 8, 8, 8, 8, 8, 8, 8, 8, 8, 8, 8, 8, 8, 8, 8, 8, 8, 8, 8, 8, 8, 8, 8, 8, 8, 8, 8, 8, 8, 8, 8, 8, 8, 8, 8, 8, 8, 8, 8, 8, 8, 8, 8, 8, 8, 8, 8, 8, 8, 8, 8, 8, 8, 8, 8, 8, 8, 8, 8, 8, 8, 8, 8, 8, 8, 8, 8, 8, 8, 8, 8, 8, 8, 8, 8, 8, 8, 8, 8, 8, 8, 8, 8, 8, 8, 8, 8, 8, 8, 8, 8, 8] : List UInt8).length : Int))) then (some ((w64 ((0 : Int) + (w64 (((List.getD ([0, 1, 2, 2, 3, 3, 3, 3, 4, 4, 4, 4, 4, 4, 4, 4, 5, 5, 5, 5, 5, 5, 5, 5, 5, 5, 5, 5, 5, 5, 5, 5, 6, 6, 6, 6, 6, 6, 6, 6, 6, 6, 6, 6, 6, 6, 6, 6, 6, 6, 6, 6, 6, 6, 6, 6, 6, 6, 6, 6, 6, 6, 6, 6, 7, 7, 7, 7, 7, 7, 7, 7, 7, 7, 7, 7, 7, 7, 7, 7, 7, 7, 7, 7, 7, 7, 7, 7, 7, 7, 7, 7, 7, 7, 7, 7, 7, 7, 7, 7, 7, 7, 7, 7, 7, 7, 7, 7, 7, 7, 7, 7, 7, 7, 7, 7, 7, 7, 7, 7, 7, 7, 7, 7, 7, 7, 7, 7, 8, 8, 8, 8, 8, 8, 8, 8, 8, 8, 8, 8, 8, 8, 8, 8, 8, 8, 8, 8, 8, 8, 8, 8, 8, 8, 8, 8, 8, 8, 8, 8, 8, 8, 8, 8, 8, 8, 8, 8, 8, 8, 8, 8, 8, 8, 8, 8, 8, 8, 8, 8, 8, 8, 8, 8, 8, 8, 8, 8, 8, 8, 8, 8, 8, 8, 8, 8, 8, 8, 8, 8, 8, 8, 8, 8, 8, 8, 8, 8, 8, 8, 8, 8, 8, 8, 8, 8, 8, 8, 8, 8, 8, 8, 8, 8, 8, 8, 8, 8, 8, 8, 8, 8, 8, 8, 8, 8, 8, 8, 8, 8, 8, 8, 8, 8, 8, 8, 8, 8, 8, 8, 8, 8, 8, 8, 8, 8] : List UInt8) (Int.toNat (IntKind.wrap .u8 x0)) 0).toNat : Nat) : Int)))))) else (none))))
noncomputable def d74_k (x0 : Int) : Bool := (d74_m x0).isSome
noncomputable def d74_r0 (x0 : Int) : Int := ((d74_m x0).getD (dflt .int))
noncomputable def d74_W : FnW E := fn1 (E := E) .u64 .int d74_k d74_r0
def d74_id : FuncId := 74
noncomputable def d74_O : Oracle E := orac [] [] [] []
noncomputable def d74_H : Hint E := Hint.mk [] [] [] [] [] 5 []
noncomputable def d74_t (_G : Nat → ASt E → Option (List (TV E))) (x0 : Int) : Option (List (TV E)) :=
  bif (decide ((4294967296 : Int) ≤ x0)) then (bif (decide ((0 : Int) ≤ (32 : Int)) && decide ((32 : Int) ≤ (64 : Int))) then (bif (decide ((65536 : Int) ≤ (x0 / 2 ^ (Int.toNat 32)))) then (bif (decide ((0 : Int) ≤ (16 : Int)) && decide ((16 : Int) ≤ (64 : Int))) then (bif (decide ((256 : Int) ≤ ((x0 / 2 ^ (Int.toNat 32)) / 2 ^ (Int.toNat 16)))) then (bif (decide ((0 : Int) ≤ (8 : Int)) && decide ((8 : Int) ≤ (64 : Int))) then (bif (decide ((0 : Int) ≤ (IntKind.wrap .u8 (((x0 / 2 ^ (Int.toNat 32)) / 2 ^ (Int.toNat 16)) / 2 ^ (Int.toNat 8)))) && decide ((IntKind.wrap .u8 (((x0 / 2 ^ (Int.toNat 32)) / 2 ^ (Int.toNat 16)) / 2 ^ (Int.toNat 8))) < (([0, 1, 2, 2, 3, 3, 3, 3, 4, 4, 4, 4, 4, 4, 4, 4, 5, 5, 5, 5, 5, 5, 5, 5, 5, 5, 5, 5, 5, 5, 5, 5, 6, 6, 6, 6, 6, 6, 6, 6, 6, 6, 6, 6, 6, 6, 6, 6, 6, 6, 6, 6, 6, 6, 6, 6, 6, 6, 6, 6, 6, 6, 6, 6, 7, 7, 7, 7, 7, 7, 7, 7, 7, 7, 7, 7, 7, 7, 7, 7, 7, 7, 7, 7, 7, 7, 7, 7, 7, 7, 7, 7, 7, 7, 7, 7, 7, 7, 7, 7, 7, 7, 7, 7, 7, 7, 7, 7, 7, 7, 7, 7, 7, 7, 7, 7, 7, 7, 7, 7, 7, 7, 7, 7, 7, 7, 7, 7, 8, 8, 8, 8, 8, 8, 8, 8, 8, 8, 8, 8, 8, 8, 8, 8, 8, 8, 8, 8, 8, 8, 8, 8, 8, 8, 8, 8, 8, 8, 8, 8, 8, 8, 8, 8, 8, 8, 8, 8, 8, 8, 8, 8, 8, 8, 8, 8, 8, 8, 8, 8, 8, 8, 8, 8, 8, 8, 8, 8, 8, 8, 8, 8, 8, 8, 8, 8, 8, 8, 8, 8, 8, 8, 8, 8, 8, 8, 8, 8, 8, 8, 8, 8, 8, 8, 8, 8, 8, 8, 8, 8, 8, 8, 8, 8, 8, 8, 8, 8, 8, 8, 8, 8, 8, 8, 8, 8, 8, 8, 8, 8, 8, 8, 8, 8, 8, 8, 8, 8, 8, 8, 8, 8, 8, 8, 8, 8] : List UInt8).length : Int))) then some [⟨.int, (w64 ((56 : Int) + (w64 (((List.getD ([0, 1, 2, 2, 3, 3, 3, 3, 4, 4, 4, 4, 4, 4, 4, 4, 5, 5, 5, 5, 5, 5, 5, 5, 5, 5, 5, 5, 5, 5, 5, 5, 6, 6, 6, 6, 6, 6, 6, 6, 6, 6, 6, 6, 6, 6, 6, 6, 6, 6, 6, 6, 6, 6, 6, 6, 6, 6, 6, 6, 6, 6, 6, 6, 7, 7, 7, 7, 7, 7, 7, 7, 7, 7, 7, 7, 7, 7, 7, 7, 7, 7, 7, 7, 7, 7, 7, 7, 7, 7, 7, 7, 7, 7, 7, 7, 7, 7, 7, 7, 7, 7, 7, 7, 7, 7, 7, 7, 7, 7, 7, 7, 7, 7, 7, 7, 7, 7, 7, 7, 7, 7, 7, 7, 7, 7, 7, 7, 8, 8, 8, 8, 8, 8, 8, 8, 8, 8, 8, 8, 8, 8, 8, 8, 8, 8, 8, 8, 8, 8, 8, 8, 8, 8, 8, 8, 8, 8, 8, 8, 8, 8, 8, 8, 8, 8, 8, 8, 8, 8, 8, 8, 8, 8, 8, 8, 8, 8, 8, 8, 8, 8, 8, 8, 8, 8, 8, 8, 8, 8, 8, 8, 8, 8, 8, 8, 8, 8, 8, 8, 8, 8, 8, 8, 8, 8, 8, 8, 8, 8, 8, 8, 8, 8, 8, 8, 8, 8, 8, 8, 8, 8, 8, 8, 8, 8, 8, 8, 8, 8, 8, 8, 8, 8, 8, 8, 8, 8, 8, 8, 8, 8, 8, 8, 8, 8, 8, 8, 8, 8, 8, 8, 8, 8, 8, 8] : List UInt8) (Int.toNat (IntKind.wrap .u8 (((x0 / 2 ^ (Int.toNat 32)) / 2 ^ (Int.toNat 16)) / 2 ^ (Int.toNat 8)))) 0).toNat : Nat) : Int))))⟩] else none) else none) else (bif (decide ((0 : Int) ≤ (IntKind.wrap .u8 ((x0 / 2 ^ (Int.toNat 32)) / 2 ^ (Int.toNat 16)))) && decide ((IntKind.wrap .u8 ((x0 / 2 ^ (Int.toNat 32)) / 2 ^ (Int.toNat 16))) < (([0, 1, 2, 2, 3, 3, 3, 3, 4, 4, 4, 4, 4, 4, 4, 4, 5, 5, 5, 5, 5, 5, 5, 5, 5, 5, 5, 5, 5, 5, 5, 5, 6, 6, 6, 6, 6, 6, 6, 6, 6, 6, 6, 6, 6, 6, 6, 6, 6, 6, 6, 6, 6, 6, 6, 6, 6, 6, 6, 6, 6, 6, 6, 6, 7, 7, 7, 7, 7, 7, 7, 7, 7, 7, 7, 7, 7, 7, 7, 7, 7, 7, 7, 7, 7, 7, 7, 7, 7, 7, 7, 7, 7, 7, 7, 7, 7, 7, 7, 7, 7, 7, 7, 7, 7, 7, 7, 7, 7, 7, 7, 7, 7, 7, 7, 7, 7, 7, 7, 7, 7, 7, 7, 7, 7, 7, 7, 7, 8, 8, 8, 8, 8, 8, 8, 8, 8, 8, 8, 8, 8, 8, 8, 8, 8, 8, 8, 8, 8, 8, 8, 8, 8, 8, 8, 8, 8, 8, 8, 8, 8, 8, 8, 8, 8, 8, 8, 8, 8, 8, 8, 8, 8, 8, 8, 8, 8, 8, 8, 8, 8, 8, 8, 8, 8, 8, 8, 8, 8, 8, 8, 8, 8, 8, 8, 8, 8, 8, 8, 8, 8, 8, 8, 8, 8, 8, 8, 8, 8, 8, 8, 8, 8, 8, 8, 8, 8, 8, 8, 8, 8, 8, 8, 8, 8, 8, 8, 8, 8, 8, 8, 8, 8, 8, 8, 8, 8, 8, 8, 8, 8, 8, 8, 8, 8, 8, 8, 8, 8, 8, 8, 8, 8, 8, 8, 8] : List UInt8).length : Int))) then some [⟨.int, (w64 ((48 : Int) + (w64 (((List.getD ([0, 1, 2, 2, 3, 3, 3, 3, 4, 4, 4, 4, 4, 4, 4, 4, 5, 5, 5, 5, 5, 5, 5, 5, 5, 5, 5, 5, 5, 5, 5, 5, 6, 6, 6, 6, 6, 6, 6, 6, 6, 6, 6, 6, 6, 6, 6, 6, 6, 6, 6, 6, 6, 6, 6, 6, 6, 6, 6, 6, 6, 6, 6, 6, 7, 7, 7, 7, 7, 7, 7, 7, 7, 7, 7, 7, 7, 7, 7, 7, 7, 7, 7, 7, 7, 7, 7, 7, 7, 7, 7, 7, 7, 7, 7, 7, 7, 7, 7, 7, 7, 7, 7, 7, 7, 7, 7, 7, 7, 7, 7, 7, 7, 7, 7, 7, 7, 7, 7, 7, 7, 7, 7, 7, 7, 7, 7, 7, 8, 8, 8, 8, 8, 8, 8, 8, 8, 8, 8, 8, 8, 8, 8, 8, 8, 8, 8, 8, 8, 8, 8, 8, 8, 8, 8, 8, 8, 8, 8, 8, 8, 8, 8, 8, 8, 8, 8, 8, 8, 8, 8, 8, 8, 8, 8, 8, 8, 8, 8, 8, 8, 8, 8, 8, 8, 8, 8, 8, 8, 8, 8, 8, 8, 8, 8, 8, 8, 8, 8, 8, 8, 8, 8, 8, 8, 8, 8, 8, 8, 8, 8, 8, 8, 8, 8, 8, 8, 8, 8, 8, 8, 8, 8, 8, 8, 8, 8, 8, 8, 8, 8, 8, 8, 8, 8, 8, 8, 8, 8, 8, 8, 8, 8, 8, 8, 8, 8, 8, 8, 8, 8, 8, 8, 8, 8, 8] : List UInt8) (Int.toNat (IntKind.wrap .u8 ((x0 / 2 ^ (Int.toNat 32)) / 2 ^ (Int.toNat 16)))) 0).toNat : Nat) : Int))))⟩] else none)) else none) else (bif (decide ((256 : Int) ≤ (x0 / 2 ^ (Int.toNat 32)))) then (bif (decide ((0 : Int) ≤ (8 : Int)) && decide ((8 : Int) ≤ (64 : Int))) then (bif (decide ((0 : Int) ≤ (IntKind.wrap .u8 ((x0 / 2 ^ (Int.toNat 32)) / 2 ^ (Int.toNat 8)))) && decide ((IntKind.wrap .u8 ((x0 / 2 ^ (Int.toNat 32)) / 2 ^ (Int.toNat 8))) < (([0, 1, 2, 2, 3, 3, 3, 3, 4, 4, 4, 4, 4, 4, 4, 4, 5, 5, 5, 5, 5, 5, 5, 5, 5, 5, 5, 5, 5, 5, 5, 5, 6, 6, 6, 6, 6, 6, 6, 6, 6, 6, 6, 6, 6, 6, 6, 6, 6, 6, 6, 6, 6, 6, 6, 6, 6, 6, 6, 6, 6, 6, 6, 6, 7, 7, 7, 7, 7, 7, 7, 7, 7, 7, 7, 7, 7, 7, 7, 7, 7, 7, 7, 7, 7, 7, 7, 7, 7, 7, 7, 7, 7, 7, 7, 7, 7, 7, 7, 7, 7, 7, 7, 7, 7, 7, 7, 7, 7, 7, 7, 7, 7, 7, 7, 7, 7, 7, 7, 7, 7, 7, 7, 7, 7, 7, 7, 7, 8, 8, 8, 8, 8, 8, 8, 8, 8, 8, 8, 8, 8, 8, 8, 8, 8, 8, 8, 8, 8, 8, 8, 8, 8, 8, 8, 8, 8, 8, 8, 8, 8, 8, 8, 8, 8, 8, 8, 8, 8, 8, 8, 8, 8, 8, 8, 8, 8, 8, 8, 8, 8, 8, 8, 8, 8, 8, 8, 8, 8, 8, 8, 8, 8, 8, 8, 8, 8, 8, 8, 8, 8, 8, 8, 8, 8, 8, 8, 8, 8, 8, 8, 8, 8, 8, 8, 8, 8, 8, 8, 8, 8, 8, 8, 8, 8, 8, 8, 8, 8, 8, 8, 8, 8, 8, 8, 8, 8, 8, 8, 8, 8, 8, 8, 8, 8, 8, 8, 8, 8, 8, 8, 8, 8, 8, 8, 8] : List UInt8).length : Int))) then some [⟨.int, (w64 ((40 : Int) + (w64 (((List.getD ([0, 1, 2, 2, 3, 3, 3, 3, 4, 4, 4, 4, 4, 4, 4, 4, 5, 5, 5, 5, 5, 5, 5, 5, 5, 5, 5, 5, 5, 5, 5, 5, 6, 6, 6, 6, 6, 6, 6, 6, 6, 6, 6, 6, 6, 6, 6, 6, 6, 6, 6, 6, 6, 6, 6, 6, 6, 6, 6, 6, 6, 6, 6, 6, 7, 7, 7, 7, 7, 7, 7, 7, 7, 7, 7, 7, 7, 7, 7, 7, 7, 7, 7, 7, 7, 7, 7, 7, 7, 7, 7, 7, 7, 7, 7, 7, 7, 7, 7, 7, 7, 7, 7, 7, 7, 7, 7, 7, 7, 7, 7, 7, 7, 7, 7, 7, 7, 7, 7, 7, 7, 7, 7, 7, 7, 7, 7, 7, 8, 8, 8, 8, 8, 8, 8, 8, 8, 8, 8, 8, 8, 8, 8, 8, 8, 8, 8, 8, 8, 8, 8, 8, 8, 8, 8, 8, 8, 8, 8, 8, 8, 8, 8, 8, 8, 8, 8, 8, 8, 8, 8, 8, 8, 8, 8, 8, 8, 8, 8, 8, 8, 8, 8, 8, 8, 8, 8, 8, 8, 8, 8, 8, 8, 8, 8, 8, 8, 8, 8, 8, 8, 8, 8, 8, 8, 8, 8, 8, 8, 8, 8, 8, 8, 8, 8, 8, 8, 8, 8, 8, 8, 8, 8, 8, 8, 8, 8, 8, 8, 8, 8, 8, 8, 8, 8, 8, 8, 8, 8, 8, 8, 8, 8, 8, 8, 8, 8, 8, 8, 8, 8, 8, 8, 8, 8, 8] : List UInt8) (Int.toNat (IntKind.wrap .u8 ((x0 / 2 ^ (Int.toNat 32)) / 2 ^ (Int.toNat 8)))) 0).toNat : Nat) : Int))))⟩] else none) else none) else (bif (decide ((0 : Int) ≤ (IntKind.wrap .u8 (x0 / 2 ^ (Int.toNat 32)))) && decide ((IntKind.wrap .u8 (x0 / 2 ^ (Int.toNat 32))) < (([0, 1, 2, 2, 3, 3, 3, 3, 4, 4, 4, 4, 4, 4, 4, 4, 5, 5, 5, 5, 5, 5, 5, 5, 5, 5, 5, 5, 5, 5, 5, 5, 6, 6, 6, 6, 6, 6, 6, 6, 6, 6, 6, 6, 6, 6, 6, 6, 6, 6, 6, 6, 6, 6, 6, 6, 6, 6, 6, 6, 6, 6, 6, 6, 7, 7, 7, 7, 7, 7, 7, 7, 7, 7, 7, 7, 7, 7, 7, 7, 7, 7, 7, 7, 7, 7, 7, 7, 7, 7, 7, 7, 7, 7, 7, 7, 7, 7, 7, 7, 7, 7, 7, 7, 7, 7, 7, 7, 7, 7, 7, 7, 7, 7, 7, 7, 7, 7, 7, 7, 7, 7, 7, 7, 7, 7, 7, 7, 8, 8, 8, 8, 8, 8, 8, 8, 8, 8, 8, 8, 8, 8, 8, 8, 8, 8, 8, 8, 8, 8, 8, 8, 8, 8, 8, 8, 8, 8, 8, 8, 8, 8, 8, 8, 8, 8, 8, 8, 8, 8, 8, 8, 8, 8, 8, 8, 8, 8, 8, 8, 8, 8, 8, 8, 8, 8, 8, 8, 8, 8, 8, 8, 8, 8, 8, 8, 8, 8, 8, 8, 8, 8, 8, 8, 8, 8, 8, 8, 8, 8, 8, 8, 8, 8, 8, 8, 8, 8, 8, 8, 8, 8, 8, 8, 8, 8, 8, 8, 8, 8, 8, 8, 8, 8, 8, 8, 8, 8, 8, 8, 8, 8, 8, 8, 8, 8, 8, 8, 8, 8, 8, 8, 8, 8, 8, 8] : List UInt8).length : Int))) then some [⟨.int, (w64 ((32 : Int) + (w64 (((List.getD ([0, 1, 2, 2, 3, 3, 3, 3, 4, 4, 4, 4, 4, 4, 4, 4, 5, 5, 5, 5, 5, 5, 5, 5, 5, 5, 5, 5, 5, 5, 5, 5, 6, 6, 6, 6, 6, 6, 6, 6, 6, 6, 6, 6, 6, 6, 6, 6, 6, 6, 6, 6, 6, 6, 6, 6, 6, 6, 6, 6, 6, 6, 6, 6, 7, 7, 7, 7, 7, 7, 7, 7, 7, 7, 7, 7, 7, 7, 7, 7, 7, 7, 7, 7, 7, 7, 7, 7, 7, 7, 7, 7, 7, 7, 7, 7, 7, 7, 7, 7, 7, 7, 7, 7, 7, 7, 7, 7, 7, 7, 7, 7, 7, 7, 7, 7, 7, 7, 7, 7, 7, 7, 7, 7, 7, 7, 7, 7, 8, 8, 8, 8, 8, 8, 8, 8, 8, 8, 8, 8, 8, 8, 8, 8, 8, 8, 8, 8, 8, 8, 8, 8, 8, 8, 8, 8, 8, 8, 8, 8, 8, 8, 8, 8, 8, 8, 8, 8, 8, 8, 8, 8, 8, 8, 8, 8, 8, 8, 8, 8, 8, 8, 8, 8, 8, 8, 8, 8, 8, 8, 8, 8, 8, 8, 8, 8, 8, 8, 8, 8, 8, 8, 8, 8, 8, 8, 8, 8, 8, 8, 8, 8, 8, 8, 8, 8, 8, 8, 8, 8, 8, 8, 8, 8, 8, 8, 8, 8, 8, 8, 8, 8, 8, 8, 8, 8, 8, 8, 8, 8, 8, 8, 8, 8, 8, 8, 8, 8, 8, 8, 8, 8, 8, 8, 8, 8] : List UInt8) (Int.toNat (IntKind.wrap .u8 (x0 / 2 ^ (Int.toNat 32)))) 0).toNat : Nat) : Int))))⟩] else none))) else none) else (bif (decide ((65536 : Int) ≤ x0)) then (bif (decide ((0 : Int) ≤ (16 : Int)) && decide ((16 : Int) ≤ (64 : Int))) then (bif (decide ((256 : Int) ≤ (x0 / 2 ^ (Int.toNat 16)))) then (bif (decide ((0 : Int) ≤ (8 : Int)) && decide ((8 : Int) ≤ (64 : Int))) then (bif (decide ((0 : Int) ≤ (IntKind.wrap .u8 ((x0 / 2 ^ (Int.toNat 16)) / 2 ^ (Int.toNat 8)))) && decide ((IntKind.wrap .u8 ((x0 / 2 ^ (Int.toNat 16)) / 2 ^ (Int.toNat 8))) < (([0, 1, 2, 2, 3, 3, 3, 3, 4, 4, 4, 4, 4, 4, 4, 4, 5, 5, 5, 5, 5, 5, 5, 5, 5, 5, 5, 5, 5, 5, 5, 5, 6, 6, 6, 6, 6, 6, 6, 6, 6, 6, 6, 6, 6, 6, 6, 6, 6, 6, 6, 6, 6, 6, 6, 6, 6, 6, 6, 6, 6, 6, 6, 6, 7, 7, 7, 7, 7, 7, 7, 7, 7, 7, 7, 7, 7, 7, 7, 7, 7, 7, 7, 7, 7, 7, 7, 7, 7, 7, 7, 7, 7, 7, 7, 7, 7, 7, 7, 7, 7, 7, 7, 7, 7, 7, 7, 7, 7, 7, 7, 7, 7, 7, 7, 7, 7, 7, 7, 7, 7, 7, 7, 7, 7, 7, 7, 7, 8, 8, 8, 8, 8, 8, 8, 8, 8, 8, 8, 8, 8, 8, 8, 8, 8, 8, 8, 8, 8, 8, 8, 8, 8, 8, 8, 8, 8, 8, 8, 8, 8, 8, 8, 8, 8, 8, 8, 8, 8, 8, 8, 8, 8, 8, 8, 8, 8, 8, 8, 8, 8, 8, 8, 8, 8, 8, 8, 8, 8, 8, 8, 8, 8, 8, 8, 8, 8, 8, 8, 8, 8, 8, 8, 8, 8, 8, 8, 8, 8, 8, 8, 8, 8, 8, 8, 8, 8, 8, 8, 8, 8, 8, 8, 8, 8, 8, 8, 8, 8, 8, 8, 8, 8, 8, 8, 8, 8, 8, 8, 8, 8, 8, 8, 8, 8, 8, 8, 8, 8, 8, 8, 8, 8, 8, 8, 8] : List UInt8).length : Int))) then some [⟨.int, (w64 ((24 : Int) + (w64 (((List.getD ([0, 1, 2, 2, 3, 3, 3, 3, 4, 4, 4, 4, 4, 4, 4, 4, 5, 5, 5, 5, 5, 5, 5, 5, 5, 5, 5, 5, 5, 5, 5, 5, 6, 6, 6, 6, 6, 6, 6, 6, 6, 6, 6, 6, 6, 6, 6, 6, 6, 6, 6, 6, 6, 6, 6, 6, 6, 6, 6, 6, 6, 6, 6, 6, 7, 7, 7, 7, 7, 7, 7, 7, 7, 7, 7, 7, 7, 7, 7, 7, 7, 7, 7, 7, 7, 7, 7, 7, 7, 7, 7, 7, 7, 7, 7, 7, 7, 7, 7, 7, 7, 7, 7, 7, 7, 7, 7, 7, 7, 7, 7, 7, 7, 7, 7, 7, 7, 7, 7, 7, 7, 7, 7, 7, 7, 7, 7, 7, 8, 8, 8, 8, 8, 8, 8, 8, 8, 8, 8, 8, 8, 8, 8, 8, 8, 8, 8, 8, 8, 8, 8, 8, 8, 8, 8, 8, 8, 8, 8, 8, 8, 8, 8, 8, 8, 8, 8, 8, 8, 8, 8, 8, 8, 8, 8, 8, 8, 8, 8, 8, 8, 8, 8, 8, 8, 8, 8, 8, 8, 8, 8, 8, 8, 8, 8, 8, 8, 8, 8, 8, 8, 8, 8, 8, 8, 8, 8, 8, 8, 8, 8, 8, 8, 8, 8, 8, 8, 8, 8, 8, 8, 8, 8, 8, 8, 8, 8, 8, 8, 8, 8, 8, 8, 8, 8, 8, 8, 8, 8, 8, 8, 8, 8, 8, 8, 8, 8, 8, 8, 8, 8, 8, 8, 8, 8, 8] : List UInt8) (Int.toNat (IntKind.wrap .u8 ((x0 / 2 ^ (Int.toNat 16)) / 2 ^ (Int.toNat 8)))) 0).toNat : Nat) : Int))))⟩] else none) else none) else (bif (decide ((0 : Int) ≤ (IntKind.wrap .u8 (x0 / 2 ^ (Int.toNat 16)))) && decide ((IntKind.wrap .u8 (x0 / 2 ^ (Int.toNat 16))) < (([0, 1, 2, 2, 3, 3, 3, 3, 4, 4, 4, 4, 4, 4, 4, 4, 5, 5, 5, 5, 5, 5, 5, 5, 5, 5, 5, 5, 5, 5, 5, 5, 6, 6, 6, 6, 6, 6, 6, 6, 6, 6, 6, 6, 6, 6, 6, 6, 6, 6, 6, 6, 6, 6, 6, 6, 6, 6, 6, 6, 6, 6, 6, 6, 7, 7, 7, 7, 7, 7, 7, 7, 7, 7, 7, 7, 7, 7, 7, 7, 7, 7, 7, 7, 7, 7, 7, 7, 7, 7, 7, 7, 7, 7, 7, 7, 7, 7, 7, 7, 7, 7, 7, 7, 7, 7, 7, 7, 7, 7, 7, 7, 7, 7, 7, 7, 7, 7, 7, 7, 7, 7, 7, 7, 7, 7, 7, 7, 8, 8, 8, 8, 8, 8, 8, 8, 8, 8, 8, 8, 8, 8, 8, 8, 8, 8, 8, 8, 8, 8, 8, 8, 8, 8, 8, 8, 8, 8, 8, 8, 8, 8, 8, 8, 8, 8, 8, 8, 8, 8, 8, 8, 8, 8, 8, 8, 8, 8, 8, 8, 8, 8, 8, 8, 8, 8, 8, 8, 8, 8, 8, 8, 8, 8, 8, 8, 8, 8, 8, 8, 8, 8, 8, 8, 8, 8, 8, 8, 8, 8, 8, 8, 8, 8, 8, 8, 8, 8, 8, 8, 8, 8, 8, 8, 8, 8, 8, 8, 8, 8, 8, 8, 8, 8, 8, 8, 8, 8, 8, 8, 8, 8, 8, 8, 8, 8, 8, 8, 8, 8, 8, 8, 8, 8, 8, 8] : List UInt8).length : Int))) then some [⟨.int, (w64 ((16 : Int) + (w64 (((List.getD ([0, 1, 2, 2, 3, 3, 3, 3, 4, 4, 4, 4, 4, 4, 4, 4, 5, 5, 5, 5, 5, 5, 5, 5, 5, 5, 5, 5, 5, 5, 5, 5, 6, 6, 6, 6, 6, 6, 6, 6, 6, 6, 6, 6, 6, 6, 6, 6, 6, 6, 6, 6, 6, 6, 6, 6, 6, 6, 6, 6, 6, 6, 6, 6, 7, 7, 7, 7, 7, 7, 7, 7, 7, 7, 7, 7, 7, 7, 7, 7, 7, 7, 7, 7, 7, 7, 7, 7, 7, 7, 7, 7, 7, 7, 7, 7, 7, 7, 7, 7, 7, 7, 7, 7, 7, 7, 7, 7, 7, 7, 7, 7, 7, 7, 7, 7, 7, 7, 7, 7, 7, 7, 7, 7, 7, 7, 7, 7, 8, 8, 8, 8, 8, 8, 8, 8, 8, 8, 8, 8, 8, 8, 8, 8, 8, 8, 8, 8, 8, 8, 8, 8, 8, 8, 8, 8, 8, 8, 8, 8, 8, 8, 8, 8, 8, 8, 8, 8, 8, 8, 8, 8, 8, 8, 8, 8, 8, 8, 8, 8, 8, 8, 8, 8, 8, 8, 8, 8, 8, 8, 8, 8, 8, 8, 8, 8, 8, 8, 8, 8, 8, 8, 8, 8, 8, 8, 8, 8, 8, 8, 8, 8, 8, 8, 8, 8, 8, 8, 8, 8, 8, 8, 8, 8, 8, 8, 8, 8, 8, 8, 8, 8, 8, 8, 8, 8, 8, 8, 8, 8, 8, 8, 8, 8, 8, 8, 8, 8, 8, 8, 8, 8, 8, 8, 8, 8] : List UInt8) (Int.toNat (IntKind.wrap .u8 (x0 / 2 ^ (Int.toNat 16)))) 0).toNat : Nat) : Int))))⟩] else none)) else none) else (bif (decide ((256 : Int) ≤ x0)) then (bif (decide ((0 : Int) ≤ (8 : Int)) && decide ((8 : Int) ≤ (64 : Int))) then (bif (decide ((0 : Int) ≤ (IntKind.wrap .u8 (x0 / 2 ^ (Int.toNat 8)))) && decide ((IntKind.wrap .u8 (x0 / 2 ^ (Int.toNat 8))) < (([0, 1, 2, 2, 3, 3, 3, 3, 4, 4, 4, 4, 4, 4, 4, 4, 5, 5, 5, 5, 5, 5, 5, 5, 5, 5, 5, 5, 5, 5, 5, 5, 6, 6, 6, 6, 6, 6, 6, 6, 6, 6, 6, 6, 6, 6, 6, 6, 6, 6, 6, 6, 6, 6, 6, 6, 6, 6, 6, 6, 6, 6, 6, 6, 7, 7, 7, 7, 7, 7, 7, 7, 7, 7, 7, 7, 7, 7, 7, 7, 7, 7, 7, 7, 7, 7, 7, 7, 7, 7, 7, 7, 7, 7, 7, 7, 7, 7, 7, 7, 7, 7, 7, 7, 7, 7, 7, 7, 7, 7, 7, 7, 7, 7, 7, 7, 7, 7, 7, 7, 7, 7, 7, 7, 7, 7, 7, 7, 8, 8, 8, 8, 8, 8, 8, 8, 8, 8, 8, 8, 8, 8, 8, 8, 8, 8, 8, 8, 8, 8, 8, 8, 8, 8, 8, 8, 8, 8, 8, 8, 8, 8, 8, 8, 8, 8, 8, 8, 8, 8, 8, 8, 8, 8, 8, 8, 8, 8, 8, 8, 8, 8, 8, 8, 8, 8, 8, 8, 8, 8, 8, 8, 8, 8, 8, 8, 8, 8, 8, 8, 8, 8, 8, 8, 8, 8, 8, 8, 8, 8, 8, 8, 8, 8, 8, 8, 8, 8, 8, 8, 8, 8, 8, 8, 8, 8, 8, 8, 8, 8, 8, 8, 8, 8, 8, 8, 8, 8, 8, 8, 8, 8, 8, 8, 8, 8, 8, 8, 8, 8, 8, 8, 8, 8, 8, 8] : List UInt8).length : Int))) then some [⟨.int, (w64 ((8 : Int) + (w64 (((List.getD ([0, 1, 2, 2, 3, 3, 3, 3, 4, 4, 4, 4, 4, 4, 4, 4, 5, 5, 5, 5, 5, 5, 5, 5, 5, 5, 5, 5, 5, 5, 5, 5, 6, 6, 6, 6, 6, 6, 6, 6, 6, 6, 6, 6, 6, 6, 6, 6, 6, 6, 6, 6, 6, 6, 6, 6, 6, 6, 6, 6, 6, 6, 6, 6, 7, 7, 7, 7, 7, 7, 7, 7, 7, 7, 7, 7, 7, 7, 7, 7, 7, 7, 7, 7, 7, 7, 7, 7, 7, 7, 7, 7, 7, 7, 7, 7, 7, 7, 7, 7, 7, 7, 7, 7, 7, 7, 7, 7, 7, 7, 7, 7, 7, 7, 7, 7, 7, 7, 7, 7, 7, 7, 7, 7, 7, 7, 7, 7, 8, 8, 8, 8, 8, 8, 8, 8, 8, 8, 8, 8, 8, 8, 8, 8, 8, 8, 8, 8, 8, 8, 8, 8, 8, 8, 8, 8, 8, 8, 8, 8, 8, 8, 8, 8, 8, 8, 8, 8, 8, 8, 8, 8, 8, 8, 8, 8, 8, 8, 8, 8, 8, 8, 8, 8, 8, 8, 8, 8, 8, 8, 8, 8, 8, 8, 8, 8, 8, 8, 8, 8, 8, 8, 8, 8, 8, 8, 8, 8, 8, 8, 8, 8, 8, 8, 8, 8, 8, 8, 8, 8, 8, 8, 8, 8, 8, 8, 8, 8, 8, 8, 8, 8, 8, 8, 8, 8, 8, 8, 8, 8, 8, 8, 8, 8, 8, 8, 8, 8, 8, 8, 8, 8, 8, 8, 8, 8] : List UInt8) (Int.toNat (IntKind.wrap .u8 (x0 / 2 ^ (Int.toNat 8)))) 0).toNat : Nat) : Int))))⟩] else none) else none) else (bif (decide ((0 : Int) ≤ (IntKind.wrap .u8 x0)) && decide ((IntKind.wrap .u8 x0) < (([0, 1, 2, 2, 3, 3, 3, 3, 4, 4, 4, 4, 4, 4, 4, 4, 5, 5, 5, 5, 5, 5, 5, 5, 5, 5, 5, 5, 5, 5, 5, 5, 6, 6, 6, 6, 6, 6, 6, 6, 6, 6, 6, 6, 6, 6, 6, 6, 6, 6, 6, 6, 6, 6, 6, 6, 6, 6, 6, 6, 6, 6, 6, 6, 7, 7, 7, 7, 7, 7, 7, 7, 7, 7, 7, 7, 7, 7, 7, 7, 7, 7, 7, 7, 7, 7, 7, 7, 7, 7, 7, 7, 7, 7, 7, 7, 7, 7, 7, 7, 7, 7, 7, 7, 7, 7, 7, 7, 7, 7, 7, 7, 7, 7, 7, 7, 7, 7, 7, 7, 7, 7, 7, 7, 7, 7, 7, 7, 8, 8, 8, 8, 8, 8, 8, 8, 8, 8, 8, 8, 8, 8, 8, 8, 8, 8, 8, 8, 8, 8, 8, 8, 8, 8, 8, 8, 8, 8, 8, 8, 8, 8, 8, 8, 8, 8, 8, 8, 8, 8, 8, 8, 8, 8, 8, 8, 8, 8, 8, 8, 8, 8, 8, 8, 8, 8, 8, 8, 8, 8, 8, 8, 8, 8, 8, 8, 8, 8, 8, 8, 8, 8, 8, 8, 8, 8, 8, 8, 8, 8, 8, 8, 8, 8, 8, 8, 8, 8, 8, 8, 8, 8, 8, 8, 8, 8, 8, 8, 8, 8, 8, 8, 8, 8, 8, 8, 8, 8, 8, 8, 8, 8, 8, 8, 8, 8, 8, 8, 8, 8, 8, 8, 8, 8, 8, 8] : List UInt8).length : Int))) then some [⟨.int, (w64 ((0 : Int) + (w64 (((List.getD ([0, 1, 2, 2, 3, 3, 3, 3, 4, 4, 4, 4, 4, 4, 4, 4, 5, 5, 5, 5, 5, 5, 5, 5, 5, 5, 5, 5, 5, 5, 5, 5, 6, 6, 6, 6, 6, 6, 6, 6, 6, 6, 6, 6, 6, 6, 6, 6, 6, 6, 6, 6, 6, 6, 6, 6, 6, 6, 6, 6, 6, 6, 6, 6, 7, 7, 7, 7, 7, 7, 7, 7, 7, 7, 7, 7, 7, 7, 7, 7, 7, 7, 7, 7, 7, 7, 7, 7, 7, 7, 7, 7, 7, 7, 7, 7, 7, 7, 7, 7, 7, 7, 7, 7, 7, 7, 7, 7, 7, 7, 7, 7, 7, 7, 7, 7, 7, 7, 7, 7, 7, 7, 7, 7, 7, 7, 7, 7, 8, 8, 8, 8, 8, 8, 8, 8, 8, 8, 8, 8, 8, 8, 8, 8, 8, 8, 8, 8, 8, 8, 8, 8, 8, 8, 8, 8, 8, 8, 8, 8, 8, 8, 8, 8, 8, 8, 8, 8, 8, 8, 8, 8, 8, 8, 8, 8, 8, 8, 8, 8, 8, 8, 8, 8, 8, 8, 8, 8, 8, 8, 8, 8, 8, 8, 8, 8, 8, 8, 8, 8, 8, 8, 8, 8, 8, 8, 8, 8, 8, 8, 8, 8, 8, 8, 8, 8, 8, 8, 8, 8, 8, 8, 8, 8, 8, 8, 8, 8, 8, 8, 8, 8, 8, 8, 8, 8, 8, 8, 8, 8, 8, 8, 8, 8, 8, 8, 8, 8, 8, 8, 8, 8, 8, 8, 8, 8] : List UInt8) (Int.toNat (IntKind.wrap .u8 x0)) 0).toNat : Nat) : Int))))⟩] else none)))
theorem d74_e (G : Nat → ASt E → Option (List (TV E))) (x0 : Int) : runE d74_O d74_H G Tryz.f74 [⟨.u64, x0⟩] = d74_t G x0 := by kernel_rfl
theorem d74_f : Tryz.prog.funcs[74]? = some Tryz.f74 := by kernel_rfl
theorem d74_n : (Tryz.f74.name == "runtime.NumGoroutine") = false := by kernel_rfl
theorem d74_b : Tryz.f74.body.isNone = false := by kernel_rfl
theorem d74_hO : OracleOk E d74_O := orac_ok .nil .nil .nil .nil
theorem d74_ok_of (h : ∀ (x0 : Int), d74_k x0 = true → d74_t (Gr E Tryz.f74 [⟨.int, d74_r0 x0⟩]) x0 = some [⟨.int, d74_r0 x0⟩]) : FnOk E d74_id d74_W := fn1_ok d74_hO mix d74_f d74_n d74_b (fun x0 hk => (d74_e _ x0).trans (h x0 hk))
theorem d74_ok : FnOk E d74_id d74_W := d74_ok_of fun x0 hk => by
  have h := some_of (d := (dflt .int)) hk
  unfold d74_t
  generalize hr : (d74_m x0).getD (dflt .int) = r at h
  rw [show d74_r0 x0 = r from hr];
  unfold d74_m at h
  exact (bif2 h (fun h => (bif2 h (fun h => (bif2 h (fun h => (bif2 h (fun h => (bif2 h (fun h => (bif2 h (fun h => (bif2 h (fun h => (by have h := Option.some.inj h; subst h; exact rfl)) fun h => (by cases h))) fun h => (by cases h))) fun h => (bif2 h (fun h => (by have h := Option.some.inj h; subst h; exact rfl)) fun h => (by cases h)))) fun h => (by cases h))) fun h => (bif2 h (fun h => (bif2 h (fun h => (bif2 h (fun h => (by have h := Option.some.inj h; subst h; exact rfl)) fun h => (by cases h))) fun h => (by cases h))) fun h => (bif2 h (fun h => (by have h := Option.some.inj h; subst h; exact rfl)) fun h => (by cases h))))) fun h => (by cases h))) fun h => (bif2 h (fun h => (bif2 h (fun h => (bif2 h (fun h => (bif2 h (fun h => (bif2 h (fun h => (by have h := Option.some.inj h; subst h; exact rfl)) fun h => (by cases h))) fun h => (by cases h))) fun h => (bif2 h (fun h => (by have h := Option.some.inj h; subst h; exact rfl)) fun h => (by cases h)))) fun h => (by cases h))) fun h => (bif2 h (fun h => (bif2 h (fun h => (bif2 h (fun h => (by have h := Option.some.inj h; subst h; exact rfl)) fun h => (by cases h))) fun h => (by cases h))) fun h => (bif2 h (fun h => (by have h := Option.some.inj h; subst h; exact rfl)) fun h => (by cases h)))))
noncomputable def d52_m (x0 : Int) : Option (Int) := bif (d74_k x0) then (some ((d74_r0 x0))) else (none)
noncomputable def d52_k (x0 : Int) : Bool := (d52_m x0).isSome
noncomputable def d52_r0 (x0 : Int) : Int := ((d52_m x0).getD (dflt .int))
noncomputable def d52_W : FnW E := fn1 (E := E) .u6489 .int d52_k d52_r0
def d52_id : FuncId := 52
noncomputable def d52_O : Oracle E := orac [(74, d74_W)] [] [] []
noncomputable def d52_H : Hint E := Hint.mk [] [] [] [] [] 5 []
noncomputable def d52_t (_G : Nat → ASt E → Option (List (TV E))) (x0 : Int) : Option (List (TV E)) :=
  bif (d74_k x0) then some [⟨.int, (d74_r0 x0)⟩] else none
theorem d52_e (G : Nat → ASt E → Option (List (TV E))) (x0 : Int) : runE d52_O d52_H G Tryz.f52 [⟨.u6489, x0⟩] = d52_t G x0 := by kernel_rfl
theorem d52_f : Tryz.prog.funcs[52]? = some Tryz.f52 := by kernel_rfl
theorem d52_n : (Tryz.f52.name == "runtime.NumGoroutine") = false := by kernel_rfl
theorem d52_b : Tryz.f52.body.isNone = false := by kernel_rfl
theorem d52_hO : OracleOk E d52_O := orac_ok (.cons d74_ok .nil) .nil .nil .nil
theorem d52_ok_of (h : ∀ (x0 : Int), d52_k x0 = true → d52_t (Gr E Tryz.f52 [⟨.int, d52_r0 x0⟩]) x0 = some [⟨.int, d52_r0 x0⟩]) : FnOk E d52_id d52_W := fn1_ok d52_hO mix d52_f d52_n d52_b (fun x0 hk => (d52_e _ x0).trans (h x0 hk))
theorem d52_ok : FnOk E d52_id d52_W := d52_ok_of fun x0 hk => by
  have h := some_of (d := (dflt .int)) hk
  unfold d52_t
  generalize hr : (d52_m x0).getD (dflt .int) = r at h
  rw [show d52_r0 x0 = r from hr];
  unfold d52_m at h
  exact (bif2 h (fun h => (by have h := Option.some.inj h; subst h; exact rfl)) fun h => (by cases h))
noncomputable def d91_m (x0 : Int) : Option (Int) := bif (d52_k (IntKind.wrap .u64 x0)) then (let y1 : Int := (d52_r0 (IntKind.wrap .u64 x0)); bif (decide ((0 : Int) ≤ y1) && decide (y1 ≤ (64 : Int))) then (some ((IntKind.wrap .u64 ((1 : Int) * 2 ^ (Int.toNat y1))))) else (none)) else (none)
noncomputable def d91_k (x0 : Int) : Bool := (d91_m x0).isSome
noncomputable def d91_r0 (x0 : Int) : Int := ((d91_m x0).getD (dflt .u6489))
noncomputable def d91_W : FnW E := fn1 (E := E) .int .u6489 d91_k d91_r0
def d91_id : FuncId := 91
noncomputable def d91_O : Oracle E := orac [(52, d52_W)] [] [] []
noncomputable def d91_H : Hint E := Hint.mk [] [] [] [] [] 5 []
noncomputable def d91_t (_G : Nat → ASt E → Option (List (TV E))) (x0 : Int) : Option (List (TV E)) :=
  bif (d52_k (IntKind.wrap .u64 x0)) then (let y1 : Int := (d52_r0 (IntKind.wrap .u64 x0)); bif (decide ((0 : Int) ≤ y1) && decide (y1 ≤ (64 : Int))) then some [⟨.u6489, (IntKind.wrap .u64 ((1 : Int) * 2 ^ (Int.toNat y1)))⟩] else none) else none
theorem d91_e (G : Nat → ASt E → Option (List (TV E))) (x0 : Int) : runE d91_O d91_H G Tryz.f91 [⟨.int, x0⟩] = d91_t G x0 := by kernel_rfl
theorem d91_f : Tryz.prog.funcs[91]? = some Tryz.f91 := by kernel_rfl
theorem d91_n : (Tryz.f91.name == "runtime.NumGoroutine") = false := by kernel_rfl
theorem d91_b : Tryz.f91.body.isNone = false := by kernel_rfl
theorem d91_hO : OracleOk E d91_O := orac_ok (.cons d52_ok .nil) .nil .nil .nil
theorem d91_ok_of (h : ∀ (x0 : Int), d91_k x0 = true → d91_t (Gr E Tryz.f91 [⟨.u6489, d91_r0 x0⟩]) x0 = some [⟨.u6489, d91_r0 x0⟩]) : FnOk E d91_id d91_W := fn1_ok d91_hO mix d91_f d91_n d91_b (fun x0 hk => (d91_e _ x0).trans (h x0 hk))
theorem d91_ok : FnOk E d91_id d91_W := d91_ok_of fun x0 hk => by
  have h := some_of (d := (dflt .u6489)) hk
  unfold d91_t
  generalize hr : (d91_m x0).getD (dflt .u6489) = r at h
  rw [show d91_r0 x0 = r from hr];
  unfold d91_m at h
  exact (bif2 h (fun h => (bif2 h (fun h => (by have h := Option.some.inj h; subst h; exact rfl)) fun h => (by cases h))) fun h => (by cases h))
noncomputable def d262_m (x0 : Int) : Option (Bool) := some ((x0 != x0))
noncomputable def d262_k (x0 : Int) : Bool := (d262_m x0).isSome
noncomputable def d262_r0 (x0 : Int) : Bool := ((d262_m x0).getD (dflt .bool))
noncomputable def d262_W : FnW E := fn1 (E := E) .int .bool d262_k d262_r0
def d262_id : FuncId := 262
noncomputable def d262_O : Oracle E := orac [] [] [] []
noncomputable def d262_H : Hint E := Hint.mk [] [] [] [] [] 5 []
noncomputable def d262_t (_G : Nat → ASt E → Option (List (TV E))) (x0 : Int) : Option (List (TV E)) :=
  some [⟨.bool, (x0 != x0)⟩]
theorem d262_e (G : Nat → ASt E → Option (List (TV E))) (x0 : Int) : runE d262_O d262_H G Tryz.f262 [⟨.int, x0⟩] = d262_t G x0 := by kernel_rfl
theorem d262_f : Tryz.prog.funcs[262]? = some Tryz.f262 := by kernel_rfl
theorem d262_n : (Tryz.f262.name == "runtime.NumGoroutine") = false := by kernel_rfl
theorem d262_b : Tryz.f262.body.isNone = false := by kernel_rfl
theorem d262_hO : OracleOk E d262_O := orac_ok .nil .nil .nil .nil
theorem d262_ok_of (h : ∀ (x0 : Int), d262_k x0 = true → d262_t (Gr E Tryz.f262 [⟨.bool, d262_r0 x0⟩]) x0 = some [⟨.bool, d262_r0 x0⟩]) : FnOk E d262_id d262_W := fn1_ok d262_hO mix d262_f d262_n d262_b (fun x0 hk => (d262_e _ x0).trans (h x0 hk))
theorem d262_ok : FnOk E d262_id d262_W := d262_ok_of fun x0 hk => by
  have h := some_of (d := (dflt .bool)) hk
  unfold d262_t
  generalize hr : (d262_m x0).getD (dflt .bool) = r at h
  rw [show d262_r0 x0 = r from hr];
  unfold d262_m at h
  exact (by have h := Option.some.inj h; subst h; exact rfl)
noncomputable def d219_m (x0 : Int) (x1 : Int) : Option (Int) := bif (d262_k x0) then (bif (d262_k x1) then (bif (d262_r0 x0) then (bif (d262_r0 x1) then (some ((0 : Int))) else (some ((-1 : Int)))) else (bif (d262_r0 x1) then (some ((1 : Int))) else (bif (decide (x0 < x1)) then (some ((-1 : Int))) else (bif (decide (x1 < x0)) then (some ((1 : Int))) else (some ((0 : Int))))))) else (none)) else (none)
noncomputable def d219_k (x0 : Int) (x1 : Int) : Bool := (d219_m x0 x1).isSome
noncomputable def d219_r0 (x0 : Int) (x1 : Int) : Int := ((d219_m x0 x1).getD (dflt .int))
noncomputable def d219_W : FnW E := fn2 (E := E) .int .int .int d219_k d219_r0
def d219_id : FuncId := 219
noncomputable def d219_O : Oracle E := orac [(262, d262_W)] [] [] []
noncomputable def d219_H : Hint E := Hint.mk [] [] [] [] [] 5 []
noncomputable def d219_t (_G : Nat → ASt E → Option (List (TV E))) (x0 x1 : Int) : Option (List (TV E)) :=
  bif (d262_k x0) then (bif (d262_k x1) then (bif (d262_r0 x0) then (bif (d262_r0 x1) then some [⟨.int, (0 : Int)⟩] else some [⟨.int, (-1 : Int)⟩]) else (bif (d262_r0 x1) then some [⟨.int, (1 : Int)⟩] else (bif (decide (x0 < x1)) then some [⟨.int, (-1 : Int)⟩] else (bif (decide (x1 < x0)) then some [⟨.int, (1 : Int)⟩] else some [⟨.int, (0 : Int)⟩])))) else none) else none
theorem d219_e (G : Nat → ASt E → Option (List (TV E))) (x0 : Int) (x1 : Int) : runE d219_O d219_H G Tryz.f219 [⟨.int, x0⟩, ⟨.int, x1⟩] = d219_t G x0 x1 := by kernel_rfl
theorem d219_f : Tryz.prog.funcs[219]? = some Tryz.f219 := by kernel_rfl
theorem d219_n : (Tryz.f219.name == "runtime.NumGoroutine") = false := by kernel_rfl
theorem d219_b : Tryz.f219.body.isNone = false := by kernel_rfl
theorem d219_hO : OracleOk E d219_O := orac_ok (.cons d262_ok .nil) .nil .nil .nil
theorem d219_ok_of (h : ∀ (x0 : Int) (x1 : Int), d219_k x0 x1 = true → d219_t (Gr E Tryz.f219 [⟨.int, d219_r0 x0 x1⟩]) x0 x1 = some [⟨.int, d219_r0 x0 x1⟩]) : FnOk E d219_id d219_W := fn2_ok d219_hO mix d219_f d219_n d219_b (fun x0 x1 hk => (d219_e _ x0 x1).trans (h x0 x1 hk))
theorem d219_ok : FnOk E d219_id d219_W := d219_ok_of fun x0 x1 hk => by
  have h := some_of (d := (dflt .int)) hk
  unfold d219_t
  generalize hr : (d219_m x0 x1).getD (dflt .int) = r at h
  rw [show d219_r0 x0 x1 = r from hr];
  unfold d219_m at h
  exact (bif2 h (fun h => (bif2 h (fun h => (bif2 h (fun h => (bif2 h (fun h => (by have h := Option.some.inj h; subst h; exact rfl)) fun h => (by have h := Option.some.inj h; subst h; exact rfl))) fun h => (bif2 h (fun h => (by have h := Option.some.inj h; subst h; exact rfl)) fun h => (bif2 h (fun h => (by have h := Option.some.inj h; subst h; exact rfl)) fun h => (bif2 h (fun h => (by have h := Option.some.inj h; subst h; exact rfl)) fun h => (by have h := Option.some.inj h; subst h; exact rfl)))))) fun h => (by cases h))) fun h => (by cases h))
noncomputable def d95_m (x0 : List UInt8) : Option (Bool) := some ((!(x0 == x0)))
noncomputable def d95_k (x0 : List UInt8) : Bool := (d95_m x0).isSome
noncomputable def d95_r0 (x0 : List UInt8) : Bool := ((d95_m x0).getD (dflt .bool))
noncomputable def d95_W : FnW E := fn1 (E := E) .str .bool d95_k d95_r0
def d95_id : FuncId := 95
noncomputable def d95_O : Oracle E := orac [] [] [] []
noncomputable def d95_H : Hint E := Hint.mk [] [] [] [] [] 5 []
noncomputable def d95_t (_G : Nat → ASt E → Option (List (TV E))) (x0 : List UInt8) : Option (List (TV E)) :=
  some [⟨.bool, (!(x0 == x0))⟩]
theorem d95_e (G : Nat → ASt E → Option (List (TV E))) (x0 : List UInt8) : runE d95_O d95_H G Tryz.f95 [⟨.str, x0⟩] = d95_t G x0 := by kernel_rfl
theorem d95_f : Tryz.prog.funcs[95]? = some Tryz.f95 := by kernel_rfl
theorem d95_n : (Tryz.f95.name == "runtime.NumGoroutine") = false := by kernel_rfl
theorem d95_b : Tryz.f95.body.isNone = false := by kernel_rfl
theorem d95_hO : OracleOk E d95_O := orac_ok .nil .nil .nil .nil
theorem d95_ok_of (h : ∀ (x0 : List UInt8), d95_k x0 = true → d95_t (Gr E Tryz.f95 [⟨.bool, d95_r0 x0⟩]) x0 = some [⟨.bool, d95_r0 x0⟩]) : FnOk E d95_id d95_W := fn1_ok d95_hO mix d95_f d95_n d95_b (fun x0 hk => (d95_e _ x0).trans (h x0 hk))
theorem d95_ok : FnOk E d95_id d95_W := d95_ok_of fun x0 hk => by
  have h := some_of (d := (dflt .bool)) hk
  unfold d95_t
  generalize hr : (d95_m x0).getD (dflt .bool) = r at h
  rw [show d95_r0 x0 = r from hr];
  unfold d95_m at h
  exact (by have h := Option.some.inj h; subst h; exact rfl)
noncomputable def d220_m (x0 : List UInt8) (x1 : List UInt8) : Option (Int) := bif (d95_k x0) then (bif (d95_k x1) then (bif (d95_r0 x0) then (bif (d95_r0 x1) then (some ((0 : Int))) else (some ((-1 : Int)))) else (bif (d95_r0 x1) then (some ((1 : Int))) else (bif (Op.bytesLess x0 x1) then (some ((-1 : Int))) else (bif (!(Op.bytesLess x0 x1 || x0 == x1)) then (some ((1 : Int))) else (some ((0 : Int))))))) else (none)) else (none)
noncomputable def d220_k (x0 : List UInt8) (x1 : List UInt8) : Bool := (d220_m x0 x1).isSome
noncomputable def d220_r0 (x0 : List UInt8) (x1 : List UInt8) : Int := ((d220_m x0 x1).getD (dflt .int))
noncomputable def d220_W : FnW E := fn2 (E := E) .str .str .int d220_k d220_r0
def d220_id : FuncId := 220
noncomputable def d220_O : Oracle E := orac [(95, d95_W)] [] [] []
noncomputable def d220_H : Hint E := Hint.mk [] [] [] [] [] 5 []
noncomputable def d220_t (_G : Nat → ASt E → Option (List (TV E))) (x0 x1 : List UInt8) : Option (List (TV E)) :=
  bif (d95_k x0) then (bif (d95_k x1) then (bif (d95_r0 x0) then (bif (d95_r0 x1) then some [⟨.int, (0 : Int)⟩] else some [⟨.int, (-1 : Int)⟩]) else (bif (d95_r0 x1) then some [⟨.int, (1 : Int)⟩] else (bif (Op.bytesLess x0 x1) then some [⟨.int, (-1 : Int)⟩] else (bif (!(Op.bytesLess x0 x1 || x0 == x1)) then some [⟨.int, (1 : Int)⟩] else some [⟨.int, (0 : Int)⟩])))) else none) else none
theorem d220_e (G : Nat → ASt E → Option (List (TV E))) (x0 : List UInt8) (x1 : List UInt8) : runE d220_O d220_H G Tryz.f220 [⟨.str, x0⟩, ⟨.str, x1⟩] = d220_t G x0 x1 := by kernel_rfl
theorem d220_f : Tryz.prog.funcs[220]? = some Tryz.f220 := by kernel_rfl
theorem d220_n : (Tryz.f220.name == "runtime.NumGoroutine") = false := by kernel_rfl
theorem d220_b : Tryz.f220.body.isNone = false := by kernel_rfl
theorem d220_hO : OracleOk E d220_O := orac_ok (.cons d95_ok .nil) .nil .nil .nil
theorem d220_ok_of (h : ∀ (x0 : List UInt8) (x1 : List UInt8), d220_k x0 x1 = true → d220_t (Gr E Tryz.f220 [⟨.int, d220_r0 x0 x1⟩]) x0 x1 = some [⟨.int, d220_r0 x0 x1⟩]) : FnOk E d220_id d220_W := fn2_ok d220_hO mix d220_f d220_n d220_b (fun x0 x1 hk => (d220_e _ x0 x1).trans (h x0 x1 hk))
theorem d220_ok : FnOk E d220_id d220_W := d220_ok_of fun x0 x1 hk => by
  have h := some_of (d := (dflt .int)) hk
  unfold d220_t
  generalize hr : (d220_m x0 x1).getD (dflt .int) = r at h
  rw [show d220_r0 x0 x1 = r from hr];
  unfold d220_m at h
  exact (bif2 h (fun h => (bif2 h (fun h => (bif2 h (fun h => (bif2 h (fun h => (by have h := Option.some.inj h; subst h; exact rfl)) fun h => (by have h := Option.some.inj h; subst h; exact rfl))) fun h => (bif2 h (fun h => (by have h := Option.some.inj h; subst h; exact rfl)) fun h => (bif2 h (fun h => (by have h := Option.some.inj h; subst h; exact rfl)) fun h => (bif2 h (fun h => (by have h := Option.some.inj h; subst h; exact rfl)) fun h => (by have h := Option.some.inj h; subst h; exact rfl)))))) fun h => (by cases h))) fun h => (by cases h))
noncomputable def d218_m0 : Nat → Int → List Int → Int → Int → Option (Int)
  | 0, _, _, _, _ => none
  | f + 1, v0, v1, v2, v3 => bif (decide (v3 < v2)) then (bif (decide ((0 : Int) ≤ v3) && decide (v3 < (v1.length : Int))) then (bif ((List.getD v1 (Int.toNat v3) (dflt .int)) != v0) then (some ((List.getD v1 (Int.toNat v3) (dflt .int)))) else (d218_m0 f v0 v1 v2 (w64 (v3 + (1 : Int))))) else (none)) else (some (v0))
noncomputable def d218_m (x0 : List Int) : Option (Int) := let y1 : Int := (x0.length : Int); d218_m0 1000000000 (0 : Int) x0 y1 (0 : Int)
noncomputable def d218_k (x0 : List Int) : Bool := (d218_m x0).isSome
noncomputable def d218_r0 (x0 : List Int) : Int := ((d218_m x0).getD (dflt .int))
noncomputable def d218_W : FnW E := fn1 (E := E) .l_int .int d218_k d218_r0
def d218_id : FuncId := 218
noncomputable def d218_O : Oracle E := orac [] [] [] []
noncomputable def d218_H : Hint E := Hint.mk [(0, [3, 6, 7, 8])] [] [] [] [] 5 []
noncomputable def d218_C0 (v0 : Int) (v1 : List Int) (v2 v3 : Int) : ASt E := ASt.mk 18 [(3, .d (.int .i64 v0)), (6, .d (.slice .int v1)), (7, .d (.int .i64 v2)), (8, .d (.int .i64 v3))] [] 0
noncomputable def d218_t (G : Nat → ASt E → Option (List (TV E))) (x0 : List Int) : Option (List (TV E)) :=
  let y1 : Int := (x0.length : Int); G 0 (d218_C0 0 x0 y1 0)
theorem d218_e (G : Nat → ASt E → Option (List (TV E))) (x0 : List Int) : runE d218_O d218_H G Tryz.f218 [⟨.l_int, x0⟩] = d218_t G x0 := by kernel_rfl
noncomputable def d218_t0 (G : Nat → ASt E → Option (List (TV E))) (v0 : Int) (v1 : List Int) (v2 v3 : Int) : Option (List (TV E)) :=
  bif (decide (v3 < v2)) then (bif (decide ((0 : Int) ≤ v3) && decide (v3 < (v1.length : Int))) then (bif ((List.getD v1 (Int.toNat v3) (dflt .int)) != v0) then some [⟨.int, (List.getD v1 (Int.toNat v3) (dflt .int))⟩] else G 0 (d218_C0 v0 v1 v2 (w64 (v3 + (1 : Int))))) else none) else some [⟨.int, v0⟩]
theorem d218_l0 (G : Nat → ASt E → Option (List (TV E))) (v0 : Int) (v1 : List Int) (v2 v3 : Int) : runL d218_O d218_H G Tryz.f218 0 (d218_C0 v0 v1 v2 v3) = d218_t0 G v0 v1 v2 v3 := by kernel_rfl
theorem d218_f : Tryz.prog.funcs[218]? = some Tryz.f218 := by kernel_rfl
theorem d218_n : (Tryz.f218.name == "runtime.NumGoroutine") = false := by kernel_rfl
theorem d218_b : Tryz.f218.body.isNone = false := by kernel_rfl
theorem d218_hO : OracleOk E d218_O := orac_ok .nil .nil .nil .nil
theorem d218_s0 {res : List (TV E)} {v0 : Int} {v1 : List Int} {v2 v3 : Int} (h : d218_t0 (Gr E Tryz.f218 res) v0 v1 v2 v3 = some res) : Ev E Tryz.f218 res 0 (d218_C0 v0 v1 v2 v3) := Ev.step d218_hO mix ((d218_l0 _ v0 v1 v2 v3).trans h)
theorem d218_ok_of (h : ∀ (x0 : List Int), d218_k x0 = true → d218_t (Gr E Tryz.f218 [⟨.int, d218_r0 x0⟩]) x0 = some [⟨.int, d218_r0 x0⟩]) : FnOk E d218_id d218_W := fn1_ok d218_hO mix d218_f d218_n d218_b (fun x0 hk => (d218_e _ x0).trans (h x0 hk))
theorem d218_v (f : Nat) : (∀ (v0 : Int) (v1 : List Int) (v2 : Int) (v3 : Int) (r : Int), d218_m0 f v0 v1 v2 v3 = some r → Ev E Tryz.f218 [⟨.int, r⟩] 0 (d218_C0 v0 v1 v2 v3)) := by
  induction f with
  | zero => exact (fun _ _ _ _ _ h => by cases h)
  | succ f ih =>
    exact (fun v0 v1 v2 v3 r h => d218_s0 (by unfold d218_m0 at h; unfold d218_t0; exact (bif2 h (fun h => (bif2 h (fun h => (bif2 h (fun h => (by have h := Option.some.inj h; subst h; exact rfl)) fun h => (Gr_of (ih _ _ _ _ _ h)))) fun h => (by cases h))) fun h => (by have h := Option.some.inj h; subst h; exact rfl))))
theorem d218_ok : FnOk E d218_id d218_W := d218_ok_of fun x0 hk => by
  have h := some_of (d := (dflt .int)) hk
  unfold d218_t
  generalize hr : (d218_m x0).getD (dflt .int) = r at h
  rw [show d218_r0 x0 = r from hr];
  unfold d218_m at h
  exact (Gr_of ((d218_v _) _ _ _ _ _ h))
noncomputable def d189_m (x0 : Port) (x1 : Port) : Option (Int) := bif (d219_k x0.in_ x1.in_) then (let y1 : Int := (d219_r0 x0.in_ x1.in_); bif (d220_k x0.proto x1.proto) then (let y2 : Int := (d220_r0 x0.proto x1.proto); bif (d220_k x0.host x1.host) then (let y3 : Int := (d220_r0 x0.host x1.host); bif (d219_k x0.out x1.out) then (let y4 : Int := (d219_r0 x0.out x1.out); bif (d218_k ([y1, y2, y3, y4] : List Int)) then (let y5 : Int := (d218_r0 ([y1, y2, y3, y4] : List Int)); some (y5)) else (none)) else (none)) else (none)) else (none)) else (none)
noncomputable def d189_k (x0 : Port) (x1 : Port) : Bool := (d189_m x0 x1).isSome
noncomputable def d189_r0 (x0 : Port) (x1 : Port) : Int := ((d189_m x0 x1).getD (dflt .int))
noncomputable def d189_W : FnW E := fn2 (E := E) .api_Port .api_Port .int d189_k d189_r0
def d189_id : FuncId := 189
noncomputable def d189_O : Oracle E := orac [(219, d219_W), (220, d220_W), (218, d218_W)] [] [] []
noncomputable def d189_H : Hint E := Hint.mk [] [] [] [] [] 5 []
noncomputable def d189_t (_G : Nat → ASt E → Option (List (TV E))) (x0 x1 : Port) : Option (List (TV E)) :=
  bif (d219_k x0.in_ x1.in_) then (let y1 : Int := (d219_r0 x0.in_ x1.in_); bif (d220_k x0.proto x1.proto) then (let y2 : Int := (d220_r0 x0.proto x1.proto); bif (d220_k x0.host x1.host) then (let y3 : Int := (d220_r0 x0.host x1.host); bif (d219_k x0.out x1.out) then (let y4 : Int := (d219_r0 x0.out x1.out); bif (d218_k ([y1, y2, y3, y4] : List Int)) then (let y5 : Int := (d218_r0 ([y1, y2, y3, y4] : List Int)); some [⟨.int, y5⟩]) else none) else none) else none) else none) else none
theorem d189_e (G : Nat → ASt E → Option (List (TV E))) (x0 : Port) (x1 : Port) : runE d189_O d189_H G Tryz.f189 [⟨.api_Port, x0⟩, ⟨.api_Port, x1⟩] = d189_t G x0 x1 := by kernel_rfl
theorem d189_f : Tryz.prog.funcs[189]? = some Tryz.f189 := by kernel_rfl
theorem d189_n : (Tryz.f189.name == "runtime.NumGoroutine") = false := by kernel_rfl
theorem d189_b : Tryz.f189.body.isNone = false := by kernel_rfl
theorem d189_hO : OracleOk E d189_O := orac_ok (.cons d219_ok (.cons d220_ok (.cons d218_ok .nil))) .nil .nil .nil
theorem d189_ok_of (h : ∀ (x0 : Port) (x1 : Port), d189_k x0 x1 = true → d189_t (Gr E Tryz.f189 [⟨.int, d189_r0 x0 x1⟩]) x0 x1 = some [⟨.int, d189_r0 x0 x1⟩]) : FnOk E d189_id d189_W := fn2_ok d189_hO mix d189_f d189_n d189_b (fun x0 x1 hk => (d189_e _ x0 x1).trans (h x0 x1 hk))
theorem d189_ok : FnOk E d189_id d189_W := d189_ok_of fun x0 x1 hk => by
  have h := some_of (d := (dflt .int)) hk
  unfold d189_t
  generalize hr : (d189_m x0 x1).getD (dflt .int) = r at h
  rw [show d189_r0 x0 x1 = r from hr];
  unfold d189_m at h
  exact (bif2 h (fun h => (bif2 h (fun h => (bif2 h (fun h => (bif2 h (fun h => (bif2 h (fun h => (by have h := Option.some.inj h; subst h; exact rfl)) fun h => (by cases h))) fun h => (by cases h))) fun h => (by cases h))) fun h => (by cases h))) fun h => (by cases h))
noncomputable def d25_m (x0 : List (List UInt8)) (x1 : List UInt8) : Option (Bool) := bif ((fun l _ => ln6k l) x0 x1) then (let y1 : Int := (indexk x0 x1); some ((decide ((0 : Int) ≤ y1)))) else (none)
noncomputable def d25_k (x0 : List (List UInt8)) (x1 : List UInt8) : Bool := (d25_m x0 x1).isSome
noncomputable def d25_r0 (x0 : List (List UInt8)) (x1 : List UInt8) : Bool := ((d25_m x0 x1).getD (dflt .bool))
noncomputable def d25_W : FnW E := fn2 (E := E) .l_str .str .bool d25_k d25_r0
def d25_id : FuncId := 25
noncomputable def d25_O : Oracle E := orac [(37, indexk_W)] [] [] []
noncomputable def d25_H : Hint E := Hint.mk [] [] [] [] [] 5 []
noncomputable def d25_t (_G : Nat → ASt E → Option (List (TV E))) (x0 : List (List UInt8)) (x1 : List UInt8) : Option (List (TV E)) :=
  bif ((fun l _ => ln6k l) x0 x1) then (let y1 : Int := (indexk x0 x1); some [⟨.bool, (decide ((0 : Int) ≤ y1))⟩]) else none
theorem d25_e (G : Nat → ASt E → Option (List (TV E))) (x0 : List (List UInt8)) (x1 : List UInt8) : runE d25_O d25_H G Tryz.f25 [⟨.l_str, x0⟩, ⟨.str, x1⟩] = d25_t G x0 x1 := by kernel_rfl
theorem d25_f : Tryz.prog.funcs[25]? = some Tryz.f25 := by kernel_rfl
theorem d25_n : (Tryz.f25.name == "runtime.NumGoroutine") = false := by kernel_rfl
theorem d25_b : Tryz.f25.body.isNone = false := by kernel_rfl
theorem d25_hO : OracleOk E d25_O := orac_ok (.cons indexk_ok .nil) .nil .nil .nil
theorem d25_ok_of (h : ∀ (x0 : List (List UInt8)) (x1 : List UInt8), d25_k x0 x1 = true → d25_t (Gr E Tryz.f25 [⟨.bool, d25_r0 x0 x1⟩]) x0 x1 = some [⟨.bool, d25_r0 x0 x1⟩]) : FnOk E d25_id d25_W := fn2_ok d25_hO mix d25_f d25_n d25_b (fun x0 x1 hk => (d25_e _ x0 x1).trans (h x0 x1 hk))
theorem d25_ok : FnOk E d25_id d25_W := d25_ok_of fun x0 x1 hk => by
  have h := some_of (d := (dflt .bool)) hk
  unfold d25_t
  generalize hr : (d25_m x0 x1).getD (dflt .bool) = r at h
  rw [show d25_r0 x0 x1 = r from hr];
  unfold d25_m at h
  exact (bif2 h (fun h => (by have h := Option.some.inj h; subst h; exact rfl)) fun h => (by cases h))
noncomputable def d57_m (x0 : List (List UInt8)) (x1 : List UInt8) : Option (Bool) := bif (d25_k x0 x1) then (let y1 : Bool := (d25_r0 x0 x1); some (y1)) else (none)
noncomputable def d57_k (x0 : List (List UInt8)) (x1 : List UInt8) : Bool := (d57_m x0 x1).isSome
noncomputable def d57_r0 (x0 : List (List UInt8)) (x1 : List UInt8) : Bool := ((d57_m x0 x1).getD (dflt .bool))
noncomputable def d57_W : FnW E := fn2 (E := E) .l_str .str .bool d57_k d57_r0
def d57_id : FuncId := 57
noncomputable def d57_O : Oracle E := orac [(25, d25_W)] [] [] []
noncomputable def d57_H : Hint E := Hint.mk [] [] [] [] [] 5 []
noncomputable def d57_t (_G : Nat → ASt E → Option (List (TV E))) (x0 : List (List UInt8)) (x1 : List UInt8) : Option (List (TV E)) :=
  bif (d25_k x0 x1) then (let y1 : Bool := (d25_r0 x0 x1); some [⟨.bool, y1⟩]) else none
theorem d57_e (G : Nat → ASt E → Option (List (TV E))) (x0 : List (List UInt8)) (x1 : List UInt8) : runE d57_O d57_H G Tryz.f57 [⟨.l_str, x0⟩, ⟨.str, x1⟩] = d57_t G x0 x1 := by kernel_rfl
theorem d57_f : Tryz.prog.funcs[57]? = some Tryz.f57 := by kernel_rfl
theorem d57_n : (Tryz.f57.name == "runtime.NumGoroutine") = false := by kernel_rfl
theorem d57_b : Tryz.f57.body.isNone = false := by kernel_rfl
theorem d57_hO : OracleOk E d57_O := orac_ok (.cons d25_ok .nil) .nil .nil .nil
theorem d57_ok_of (h : ∀ (x0 : List (List UInt8)) (x1 : List UInt8), d57_k x0 x1 = true → d57_t (Gr E Tryz.f57 [⟨.bool, d57_r0 x0 x1⟩]) x0 x1 = some [⟨.bool, d57_r0 x0 x1⟩]) : FnOk E d57_id d57_W := fn2_ok d57_hO mix d57_f d57_n d57_b (fun x0 x1 hk => (d57_e _ x0 x1).trans (h x0 x1 hk))
theorem d57_ok : FnOk E d57_id d57_W := d57_ok_of fun x0 x1 hk => by
  have h := some_of (d := (dflt .bool)) hk
  unfold d57_t
  generalize hr : (d57_m x0 x1).getD (dflt .bool) = r at h
  rw [show d57_r0 x0 x1 = r from hr];
  unfold d57_m at h
  exact (bif2 h (fun h => (by have h := Option.some.inj h; subst h; exact rfl)) fun h => (by cases h))
noncomputable def d148_m0 : Nat → List Var → List Var → Int → Int → Option (Bool)
  | 0, _, _, _, _ => none
  | f + 1, v0, v1, v2, v3 => bif (decide (v3 < v2)) then (bif (decide ((0 : Int) ≤ v3) && decide (v3 < (v0.length : Int))) then (bif (decide ((0 : Int) ≤ v3) && decide (v3 < (v1.length : Int))) then (bif (!(((List.getD v0 (Int.toNat v3) (dflt .api_Var)).key == (List.getD v1 (Int.toNat v3) (dflt .api_Var)).key) && (((List.getD v0 (Int.toNat v3) (dflt .api_Var)).val == (List.getD v1 (Int.toNat v3) (dflt .api_Var)).val) && true))) then (some (false)) else (d148_m0 f v0 v1 v2 (w64 (v3 + (1 : Int))))) else (none)) else (none)) else (some (true))
noncomputable def d148_m (x0 : List Var) (x1 : List Var) : Option (Bool) := let y1 : Int := (x0.length : Int); let y2 : Int := (x1.length : Int); bif (y1 != y2) then (some (false)) else (let y3 : Int := (x0.length : Int); d148_m0 1000000000 x0 x1 y3 (0 : Int))
noncomputable def d148_k (x0 : List Var) (x1 : List Var) : Bool := (d148_m x0 x1).isSome
noncomputable def d148_r0 (x0 : List Var) (x1 : List Var) : Bool := ((d148_m x0 x1).getD (dflt .bool))
noncomputable def d148_W : FnW E := fn2 (E := E) .l_api_Var .l_api_Var .bool d148_k d148_r0
def d148_id : FuncId := 148
noncomputable def d148_O : Oracle E := orac [] [] [] []
noncomputable def d148_H : Hint E := Hint.mk [(0, [0, 1, 12, 13])] [] [] [] [] 5 []
noncomputable def d148_C0 (v0 v1 : List Var) (v2 v3 : Int) : ASt E := ASt.mk 26 [(0, .d (.slice .api_Var v0)), (1, .d (.slice .api_Var v1)), (12, .d (.int .i64 v2)), (13, .d (.int .i64 v3))] [] 0
noncomputable def d148_t (G : Nat → ASt E → Option (List (TV E))) (x0 x1 : List Var) : Option (List (TV E)) :=
  let y1 : Int := (x0.length : Int); let y2 : Int := (x1.length : Int); bif (y1 != y2) then some [⟨.bool, false⟩] else (let y3 : Int := (x0.length : Int); G 0 (d148_C0 x0 x1 y3 0))
theorem d148_e (G : Nat → ASt E → Option (List (TV E))) (x0 : List Var) (x1 : List Var) : runE d148_O d148_H G Tryz.f148 [⟨.l_api_Var, x0⟩, ⟨.l_api_Var, x1⟩] = d148_t G x0 x1 := by kernel_rfl
noncomputable def d148_t0 (G : Nat → ASt E → Option (List (TV E))) (v0 v1 : List Var) (v2 v3 : Int) : Option (List (TV E)) :=
  bif (decide (v3 < v2)) then (bif (decide ((0 : Int) ≤ v3) && decide (v3 < (v0.length : Int))) then (bif (decide ((0 : Int) ≤ v3) && decide (v3 < (v1.length : Int))) then (bif (!(((List.getD v0 (Int.toNat v3) (dflt .api_Var)).key == (List.getD v1 (Int.toNat v3) (dflt .api_Var)).key) && (((List.getD v0 (Int.toNat v3) (dflt .api_Var)).val == (List.getD v1 (Int.toNat v3) (dflt .api_Var)).val) && true))) then some [⟨.bool, false⟩] else G 0 (d148_C0 v0 v1 v2 (w64 (v3 + (1 : Int))))) else none) else none) else some [⟨.bool, true⟩]
theorem d148_l0 (G : Nat → ASt E → Option (List (TV E))) (v0 v1 : List Var) (v2 v3 : Int) : runL d148_O d148_H G Tryz.f148 0 (d148_C0 v0 v1 v2 v3) = d148_t0 G v0 v1 v2 v3 := by kernel_rfl
theorem d148_f : Tryz.prog.funcs[148]? = some Tryz.f148 := by kernel_rfl
theorem d148_n : (Tryz.f148.name == "runtime.NumGoroutine") = false := by kernel_rfl
theorem d148_b : Tryz.f148.body.isNone = false := by kernel_rfl
theorem d148_hO : OracleOk E d148_O := orac_ok .nil .nil .nil .nil
theorem d148_s0 {res : List (TV E)} {v0 v1 : List Var} {v2 v3 : Int} (h : d148_t0 (Gr E Tryz.f148 res) v0 v1 v2 v3 = some res) : Ev E Tryz.f148 res 0 (d148_C0 v0 v1 v2 v3) := Ev.step d148_hO mix ((d148_l0 _ v0 v1 v2 v3).trans h)
theorem d148_ok_of (h : ∀ (x0 : List Var) (x1 : List Var), d148_k x0 x1 = true → d148_t (Gr E Tryz.f148 [⟨.bool, d148_r0 x0 x1⟩]) x0 x1 = some [⟨.bool, d148_r0 x0 x1⟩]) : FnOk E d148_id d148_W := fn2_ok d148_hO mix d148_f d148_n d148_b (fun x0 x1 hk => (d148_e _ x0 x1).trans (h x0 x1 hk))
theorem d148_v (f : Nat) : (∀ (v0 : List Var) (v1 : List Var) (v2 : Int) (v3 : Int) (r : Bool), d148_m0 f v0 v1 v2 v3 = some r → Ev E Tryz.f148 [⟨.bool, r⟩] 0 (d148_C0 v0 v1 v2 v3)) := by
  induction f with
  | zero => exact (fun _ _ _ _ _ h => by cases h)
  | succ f ih =>
    exact (fun v0 v1 v2 v3 r h => d148_s0 (by unfold d148_m0 at h; unfold d148_t0; exact (bif2 h (fun h => (bif2 h (fun h => (bif2 h (fun h => (bif2 h (fun h => (by have h := Option.some.inj h; subst h; exact rfl)) fun h => (Gr_of (ih _ _ _ _ _ h)))) fun h => (by cases h))) fun h => (by cases h))) fun h => (by have h := Option.some.inj h; subst h; exact rfl))))
theorem d148_ok : FnOk E d148_id d148_W := d148_ok_of fun x0 x1 hk => by
  have h := some_of (d := (dflt .bool)) hk
  unfold d148_t
  generalize hr : (d148_m x0 x1).getD (dflt .bool) = r at h
  rw [show d148_r0 x0 x1 = r from hr];
  unfold d148_m at h
  exact (bif2 h (fun h => (by have h := Option.some.inj h; subst h; exact rfl)) fun h => (Gr_of ((d148_v _) _ _ _ _ _ h)))
noncomputable def d149_m0 : Nat → List Port → List Port → Int → Int → Option (Bool)
  | 0, _, _, _, _ => none
  | f + 1, v0, v1, v2, v3 => bif (decide (v3 < v2)) then (bif (decide ((0 : Int) ≤ v3) && decide (v3 < (v0.length : Int))) then (bif (decide ((0 : Int) ≤ v3) && decide (v3 < (v1.length : Int))) then (bif (!(((List.getD v0 (Int.toNat v3) (dflt .api_Port)).host == (List.getD v1 (Int.toNat v3) (dflt .api_Port)).host) && (((List.getD v0 (Int.toNat v3) (dflt .api_Port)).out == (List.getD v1 (Int.toNat v3) (dflt .api_Port)).out) && (((List.getD v0 (Int.toNat v3) (dflt .api_Port)).in_ == (List.getD v1 (Int.toNat v3) (dflt .api_Port)).in_) && (((List.getD v0 (Int.toNat v3) (dflt .api_Port)).proto == (List.getD v1 (Int.toNat v3) (dflt .api_Port)).proto) && true))))) then (some (false)) else (d149_m0 f v0 v1 v2 (w64 (v3 + (1 : Int))))) else (none)) else (none)) else (some (true))
noncomputable def d149_m (x0 : List Port) (x1 : List Port) : Option (Bool) := let y1 : Int := (x0.length : Int); let y2 : Int := (x1.length : Int); bif (y1 != y2) then (some (false)) else (let y3 : Int := (x0.length : Int); d149_m0 1000000000 x0 x1 y3 (0 : Int))
noncomputable def d149_k (x0 : List Port) (x1 : List Port) : Bool := (d149_m x0 x1).isSome
noncomputable def d149_r0 (x0 : List Port) (x1 : List Port) : Bool := ((d149_m x0 x1).getD (dflt .bool))
noncomputable def d149_W : FnW E := fn2 (E := E) .l_api_Port .l_api_Port .bool d149_k d149_r0
def d149_id : FuncId := 149
noncomputable def d149_O : Oracle E := orac [] [] [] []
noncomputable def d149_H : Hint E := Hint.mk [(0, [0, 1, 12, 13])] [] [] [] [] 5 []
noncomputable def d149_C0 (v0 v1 : List Port) (v2 v3 : Int) : ASt E := ASt.mk 26 [(0, .d (.slice .api_Port v0)), (1, .d (.slice .api_Port v1)), (12, .d (.int .i64 v2)), (13, .d (.int .i64 v3))] [] 0
noncomputable def d149_t (G : Nat → ASt E → Option (List (TV E))) (x0 x1 : List Port) : Option (List (TV E)) :=
  let y1 : Int := (x0.length : Int); let y2 : Int := (x1.length : Int); bif (y1 != y2) then some [⟨.bool, false⟩] else (let y3 : Int := (x0.length : Int); G 0 (d149_C0 x0 x1 y3 0))
theorem d149_e (G : Nat → ASt E → Option (List (TV E))) (x0 : List Port) (x1 : List Port) : runE d149_O d149_H G Tryz.f149 [⟨.l_api_Port, x0⟩, ⟨.l_api_Port, x1⟩] = d149_t G x0 x1 := by kernel_rfl
noncomputable def d149_t0 (G : Nat → ASt E → Option (List (TV E))) (v0 v1 : List Port) (v2 v3 : Int) : Option (List (TV E)) :=
  bif (decide (v3 < v2)) then (bif (decide ((0 : Int) ≤ v3) && decide (v3 < (v0.length : Int))) then (bif (decide ((0 : Int) ≤ v3) && decide (v3 < (v1.length : Int))) then (bif (!(((List.getD v0 (Int.toNat v3) (dflt .api_Port)).host == (List.getD v1 (Int.toNat v3) (dflt .api_Port)).host) && (((List.getD v0 (Int.toNat v3) (dflt .api_Port)).out == (List.getD v1 (Int.toNat v3) (dflt .api_Port)).out) && (((List.getD v0 (Int.toNat v3) (dflt .api_Port)).in_ == (List.getD v1 (Int.toNat v3) (dflt .api_Port)).in_) && (((List.getD v0 (Int.toNat v3) (dflt .api_Port)).proto == (List.getD v1 (Int.toNat v3) (dflt .api_Port)).proto) && true))))) then some [⟨.bool, false⟩] else G 0 (d149_C0 v0 v1 v2 (w64 (v3 + (1 : Int))))) else none) else none) else some [⟨.bool, true⟩]
theorem d149_l0 (G : Nat → ASt E → Option (List (TV E))) (v0 v1 : List Port) (v2 v3 : Int) : runL d149_O d149_H G Tryz.f149 0 (d149_C0 v0 v1 v2 v3) = d149_t0 G v0 v1 v2 v3 := by kernel_rfl
theorem d149_f : Tryz.prog.funcs[149]? = some Tryz.f149 := by kernel_rfl
theorem d149_n : (Tryz.f149.name == "runtime.NumGoroutine") = false := by kernel_rfl
theorem d149_b : Tryz.f149.body.isNone = false := by kernel_rfl
theorem d149_hO : OracleOk E d149_O := orac_ok .nil .nil .nil .nil
theorem d149_s0 {res : List (TV E)} {v0 v1 : List Port} {v2 v3 : Int} (h : d149_t0 (Gr E Tryz.f149 res) v0 v1 v2 v3 = some res) : Ev E Tryz.f149 res 0 (d149_C0 v0 v1 v2 v3) := Ev.step d149_hO mix ((d149_l0 _ v0 v1 v2 v3).trans h)
theorem d149_ok_of (h : ∀ (x0 : List Port) (x1 : List Port), d149_k x0 x1 = true → d149_t (Gr E Tryz.f149 [⟨.bool, d149_r0 x0 x1⟩]) x0 x1 = some [⟨.bool, d149_r0 x0 x1⟩]) : FnOk E d149_id d149_W := fn2_ok d149_hO mix d149_f d149_n d149_b (fun x0 x1 hk => (d149_e _ x0 x1).trans (h x0 x1 hk))
theorem d149_v (f : Nat) : (∀ (v0 : List Port) (v1 : List Port) (v2 : Int) (v3 : Int) (r : Bool), d149_m0 f v0 v1 v2 v3 = some r → Ev E Tryz.f149 [⟨.bool, r⟩] 0 (d149_C0 v0 v1 v2 v3)) := by
  induction f with
  | zero => exact (fun _ _ _ _ _ h => by cases h)
  | succ f ih =>
    exact (fun v0 v1 v2 v3 r h => d149_s0 (by unfold d149_m0 at h; unfold d149_t0; exact (bif2 h (fun h => (bif2 h (fun h => (bif2 h (fun h => (bif2 h (fun h => (by have h := Option.some.inj h; subst h; exact rfl)) fun h => (Gr_of (ih _ _ _ _ _ h)))) fun h => (by cases h))) fun h => (by cases h))) fun h => (by have h := Option.some.inj h; subst h; exact rfl))))
theorem d149_ok : FnOk E d149_id d149_W := d149_ok_of fun x0 x1 hk => by
  have h := some_of (d := (dflt .bool)) hk
  unfold d149_t
  generalize hr : (d149_m x0 x1).getD (dflt .bool) = r at h
  rw [show d149_r0 x0 x1 = r from hr];
  unfold d149_m at h
  exact (bif2 h (fun h => (by have h := Option.some.inj h; subst h; exact rfl)) fun h => (Gr_of ((d149_v _) _ _ _ _ _ h)))
noncomputable def d150_m0 : Nat → List Mount → List Mount → Int → Int → Option (Bool)
  | 0, _, _, _, _ => none
  | f + 1, v0, v1, v2, v3 => bif (decide (v3 < v2)) then (bif (decide ((0 : Int) ≤ v3) && decide (v3 < (v0.length : Int))) then (bif (decide ((0 : Int) ≤ v3) && decide (v3 < (v1.length : Int))) then (bif (!(((List.getD v0 (Int.toNat v3) (dflt .api_Mount)).source == (List.getD v1 (Int.toNat v3) (dflt .api_Mount)).source) && (((List.getD v0 (Int.toNat v3) (dflt .api_Mount)).target == (List.getD v1 (Int.toNat v3) (dflt .api_Mount)).target) && (((List.getD v0 (Int.toNat v3) (dflt .api_Mount)).readOnly == (List.getD v1 (Int.toNat v3) (dflt .api_Mount)).readOnly) && true)))) then (some (false)) else (d150_m0 f v0 v1 v2 (w64 (v3 + (1 : Int))))) else (none)) else (none)) else (some (true))
noncomputable def d150_m (x0 : List Mount) (x1 : List Mount) : Option (Bool) := let y1 : Int := (x0.length : Int); let y2 : Int := (x1.length : Int); bif (y1 != y2) then (some (false)) else (let y3 : Int := (x0.length : Int); d150_m0 1000000000 x0 x1 y3 (0 : Int))
noncomputable def d150_k (x0 : List Mount) (x1 : List Mount) : Bool := (d150_m x0 x1).isSome
noncomputable def d150_r0 (x0 : List Mount) (x1 : List Mount) : Bool := ((d150_m x0 x1).getD (dflt .bool))
noncomputable def d150_W : FnW E := fn2 (E := E) .l_api_Mount .l_api_Mount .bool d150_k d150_r0
def d150_id : FuncId := 150
noncomputable def d150_O : Oracle E := orac [] [] [] []
noncomputable def d150_H : Hint E := Hint.mk [(0, [0, 1, 12, 13])] [] [] [] [] 5 []
noncomputable def d150_C0 (v0 v1 : List Mount) (v2 v3 : Int) : ASt E := ASt.mk 26 [(0, .d (.slice .api_Mount v0)), (1, .d (.slice .api_Mount v1)), (12, .d (.int .i64 v2)), (13, .d (.int .i64 v3))] [] 0
noncomputable def d150_t (G : Nat → ASt E → Option (List (TV E))) (x0 x1 : List Mount) : Option (List (TV E)) :=
  let y1 : Int := (x0.length : Int); let y2 : Int := (x1.length : Int); bif (y1 != y2) then some [⟨.bool, false⟩] else (let y3 : Int := (x0.length : Int); G 0 (d150_C0 x0 x1 y3 0))
theorem d150_e (G : Nat → ASt E → Option (List (TV E))) (x0 : List Mount) (x1 : List Mount) : runE d150_O d150_H G Tryz.f150 [⟨.l_api_Mount, x0⟩, ⟨.l_api_Mount, x1⟩] = d150_t G x0 x1 := by kernel_rfl
noncomputable def d150_t0 (G : Nat → ASt E → Option (List (TV E))) (v0 v1 : List Mount) (v2 v3 : Int) : Option (List (TV E)) :=
  bif (decide (v3 < v2)) then (bif (decide ((0 : Int) ≤ v3) && decide (v3 < (v0.length : Int))) then (bif (decide ((0 : Int) ≤ v3) && decide (v3 < (v1.length : Int))) then (bif (!(((List.getD v0 (Int.toNat v3) (dflt .api_Mount)).source == (List.getD v1 (Int.toNat v3) (dflt .api_Mount)).source) && (((List.getD v0 (Int.toNat v3) (dflt .api_Mount)).target == (List.getD v1 (Int.toNat v3) (dflt .api_Mount)).target) && (((List.getD v0 (Int.toNat v3) (dflt .api_Mount)).readOnly == (List.getD v1 (Int.toNat v3) (dflt .api_Mount)).readOnly) && true)))) then some [⟨.bool, false⟩] else G 0 (d150_C0 v0 v1 v2 (w64 (v3 + (1 : Int))))) else none) else none) else some [⟨.bool, true⟩]
theorem d150_l0 (G : Nat → ASt E → Option (List (TV E))) (v0 v1 : List Mount) (v2 v3 : Int) : runL d150_O d150_H G Tryz.f150 0 (d150_C0 v0 v1 v2 v3) = d150_t0 G v0 v1 v2 v3 := by kernel_rfl
theorem d150_f : Tryz.prog.funcs[150]? = some Tryz.f150 := by kernel_rfl
theorem d150_n : (Tryz.f150.name == "runtime.NumGoroutine") = false := by kernel_rfl
theorem d150_b : Tryz.f150.body.isNone = false := by kernel_rfl
theorem d150_hO : OracleOk E d150_O := orac_ok .nil .nil .nil .nil
theorem d150_s0 {res : List (TV E)} {v0 v1 : List Mount} {v2 v3 : Int} (h : d150_t0 (Gr E Tryz.f150 res) v0 v1 v2 v3 = some res) : Ev E Tryz.f150 res 0 (d150_C0 v0 v1 v2 v3) := Ev.step d150_hO mix ((d150_l0 _ v0 v1 v2 v3).trans h)
theorem d150_ok_of (h : ∀ (x0 : List Mount) (x1 : List Mount), d150_k x0 x1 = true → d150_t (Gr E Tryz.f150 [⟨.bool, d150_r0 x0 x1⟩]) x0 x1 = some [⟨.bool, d150_r0 x0 x1⟩]) : FnOk E d150_id d150_W := fn2_ok d150_hO mix d150_f d150_n d150_b (fun x0 x1 hk => (d150_e _ x0 x1).trans (h x0 x1 hk))
theorem d150_v (f : Nat) : (∀ (v0 : List Mount) (v1 : List Mount) (v2 : Int) (v3 : Int) (r : Bool), d150_m0 f v0 v1 v2 v3 = some r → Ev E Tryz.f150 [⟨.bool, r⟩] 0 (d150_C0 v0 v1 v2 v3)) := by
  induction f with
  | zero => exact (fun _ _ _ _ _ h => by cases h)
  | succ f ih =>
    exact (fun v0 v1 v2 v3 r h => d150_s0 (by unfold d150_m0 at h; unfold d150_t0; exact (bif2 h (fun h => (bif2 h (fun h => (bif2 h (fun h => (bif2 h (fun h => (by have h := Option.some.inj h; subst h; exact rfl)) fun h => (Gr_of (ih _ _ _ _ _ h)))) fun h => (by cases h))) fun h => (by cases h))) fun h => (by have h := Option.some.inj h; subst h; exact rfl))))
theorem d150_ok : FnOk E d150_id d150_W := d150_ok_of fun x0 x1 hk => by
  have h := some_of (d := (dflt .bool)) hk
  unfold d150_t
  generalize hr : (d150_m x0 x1).getD (dflt .bool) = r at h
  rw [show d150_r0 x0 x1 = r from hr];
  unfold d150_m at h
  exact (bif2 h (fun h => (by have h := Option.some.inj h; subst h; exact rfl)) fun h => (Gr_of ((d150_v _) _ _ _ _ _ h)))
noncomputable def d151_m0 : Nat → List Dep → List Dep → Int → Int → Option (Bool)
  | 0, _, _, _, _ => none
  | f + 1, v0, v1, v2, v3 => bif (decide (v3 < v2)) then (bif (decide ((0 : Int) ≤ v3) && decide (v3 < (v0.length : Int))) then (bif (decide ((0 : Int) ≤ v3) && decide (v3 < (v1.length : Int))) then (bif (!(((List.getD v0 (Int.toNat v3) (dflt .api_Dep)).service == (List.getD v1 (Int.toNat v3) (dflt .api_Dep)).service) && (((List.getD v0 (Int.toNat v3) (dflt .api_Dep)).cond == (List.getD v1 (Int.toNat v3) (dflt .api_Dep)).cond) && (((List.getD v0 (Int.toNat v3) (dflt .api_Dep)).restart == (List.getD v1 (Int.toNat v3) (dflt .api_Dep)).restart) && (((List.getD v0 (Int.toNat v3) (dflt .api_Dep)).required == (List.getD v1 (Int.toNat v3) (dflt .api_Dep)).required) && true))))) then (some (false)) else (d151_m0 f v0 v1 v2 (w64 (v3 + (1 : Int))))) else (none)) else (none)) else (some (true))
noncomputable def d151_m (x0 : List Dep) (x1 : List Dep) : Option (Bool) := let y1 : Int := (x0.length : Int); let y2 : Int := (x1.length : Int); bif (y1 != y2) then (some (false)) else (let y3 : Int := (x0.length : Int); d151_m0 1000000000 x0 x1 y3 (0 : Int))
noncomputable def d151_k (x0 : List Dep) (x1 : List Dep) : Bool := (d151_m x0 x1).isSome
noncomputable def d151_r0 (x0 : List Dep) (x1 : List Dep) : Bool := ((d151_m x0 x1).getD (dflt .bool))
noncomputable def d151_W : FnW E := fn2 (E := E) .l_api_Dep .l_api_Dep .bool d151_k d151_r0
def d151_id : FuncId := 151
noncomputable def d151_O : Oracle E := orac [] [] [] []
noncomputable def d151_H : Hint E := Hint.mk [(0, [0, 1, 12, 13])] [] [] [] [] 5 []
noncomputable def d151_C0 (v0 v1 : List Dep) (v2 v3 : Int) : ASt E := ASt.mk 26 [(0, .d (.slice .api_Dep v0)), (1, .d (.slice .api_Dep v1)), (12, .d (.int .i64 v2)), (13, .d (.int .i64 v3))] [] 0
noncomputable def d151_t (G : Nat → ASt E → Option (List (TV E))) (x0 x1 : List Dep) : Option (List (TV E)) :=
  let y1 : Int := (x0.length : Int); let y2 : Int := (x1.length : Int); bif (y1 != y2) then some [⟨.bool, false⟩] else (let y3 : Int := (x0.length : Int); G 0 (d151_C0 x0 x1 y3 0))
theorem d151_e (G : Nat → ASt E → Option (List (TV E))) (x0 : List Dep) (x1 : List Dep) : runE d151_O d151_H G Tryz.f151 [⟨.l_api_Dep, x0⟩, ⟨.l_api_Dep, x1⟩] = d151_t G x0 x1 := by kernel_rfl
noncomputable def d151_t0 (G : Nat → ASt E → Option (List (TV E))) (v0 v1 : List Dep) (v2 v3 : Int) : Option (List (TV E)) :=
  bif (decide (v3 < v2)) then (bif (decide ((0 : Int) ≤ v3) && decide (v3 < (v0.length : Int))) then (bif (decide ((0 : Int) ≤ v3) && decide (v3 < (v1.length : Int))) then (bif (!(((List.getD v0 (Int.toNat v3) (dflt .api_Dep)).service == (List.getD v1 (Int.toNat v3) (dflt .api_Dep)).service) && (((List.getD v0 (Int.toNat v3) (dflt .api_Dep)).cond == (List.getD v1 (Int.toNat v3) (dflt .api_Dep)).cond) && (((List.getD v0 (Int.toNat v3) (dflt .api_Dep)).restart == (List.getD v1 (Int.toNat v3) (dflt .api_Dep)).restart) && (((List.getD v0 (Int.toNat v3) (dflt .api_Dep)).required == (List.getD v1 (Int.toNat v3) (dflt .api_Dep)).required) && true))))) then some [⟨.bool, false⟩] else G 0 (d151_C0 v0 v1 v2 (w64 (v3 + (1 : Int))))) else none) else none) else some [⟨.bool, true⟩]
theorem d151_l0 (G : Nat → ASt E → Option (List (TV E))) (v0 v1 : List Dep) (v2 v3 : Int) : runL d151_O d151_H G Tryz.f151 0 (d151_C0 v0 v1 v2 v3) = d151_t0 G v0 v1 v2 v3 := by kernel_rfl
theorem d151_f : Tryz.prog.funcs[151]? = some Tryz.f151 := by kernel_rfl
theorem d151_n : (Tryz.f151.name == "runtime.NumGoroutine") = false := by kernel_rfl
theorem d151_b : Tryz.f151.body.isNone = false := by kernel_rfl
theorem d151_hO : OracleOk E d151_O := orac_ok .nil .nil .nil .nil
theorem d151_s0 {res : List (TV E)} {v0 v1 : List Dep} {v2 v3 : Int} (h : d151_t0 (Gr E Tryz.f151 res) v0 v1 v2 v3 = some res) : Ev E Tryz.f151 res 0 (d151_C0 v0 v1 v2 v3) := Ev.step d151_hO mix ((d151_l0 _ v0 v1 v2 v3).trans h)
theorem d151_ok_of (h : ∀ (x0 : List Dep) (x1 : List Dep), d151_k x0 x1 = true → d151_t (Gr E Tryz.f151 [⟨.bool, d151_r0 x0 x1⟩]) x0 x1 = some [⟨.bool, d151_r0 x0 x1⟩]) : FnOk E d151_id d151_W := fn2_ok d151_hO mix d151_f d151_n d151_b (fun x0 x1 hk => (d151_e _ x0 x1).trans (h x0 x1 hk))
theorem d151_v (f : Nat) : (∀ (v0 : List Dep) (v1 : List Dep) (v2 : Int) (v3 : Int) (r : Bool), d151_m0 f v0 v1 v2 v3 = some r → Ev E Tryz.f151 [⟨.bool, r⟩] 0 (d151_C0 v0 v1 v2 v3)) := by
  induction f with
  | zero => exact (fun _ _ _ _ _ h => by cases h)
  | succ f ih =>
    exact (fun v0 v1 v2 v3 r h => d151_s0 (by unfold d151_m0 at h; unfold d151_t0; exact (bif2 h (fun h => (bif2 h (fun h => (bif2 h (fun h => (bif2 h (fun h => (by have h := Option.some.inj h; subst h; exact rfl)) fun h => (Gr_of (ih _ _ _ _ _ h)))) fun h => (by cases h))) fun h => (by cases h))) fun h => (by have h := Option.some.inj h; subst h; exact rfl))))
theorem d151_ok : FnOk E d151_id d151_W := d151_ok_of fun x0 x1 hk => by
  have h := some_of (d := (dflt .bool)) hk
  unfold d151_t
  generalize hr : (d151_m x0 x1).getD (dflt .bool) = r at h
  rw [show d151_r0 x0 x1 = r from hr];
  unfold d151_m at h
  exact (bif2 h (fun h => (by have h := Option.some.inj h; subst h; exact rfl)) fun h => (Gr_of ((d151_v _) _ _ _ _ _ h)))
noncomputable def d108_m (x0 : Service) (x1 : Service) : Option (Bool) := bif (bif (bif (bif (bif (bif (bif (bif (!(x0.name == x1.name)) then true else (!(x0.image == x1.image))) then true else (x0.replicas != x1.replicas)) then true else (!((x0.health.test == x1.health.test) && ((x0.health.every == x1.health.every) && ((x0.health.start == x1.health.start) && ((x0.health.retries == x1.health.retries) && true)))))) then true else (x0.restart != x1.restart)) then true else (x0.tries != x1.tries)) then true else (x0.cpus != x1.cpus)) then true else (x0.mem != x1.mem)) then (some (false)) else (bif ((fun a _ => ln6 a) x0.command x1.command) then (let y1 : Bool := (equal x0.command x1.command); bif ((d148_k x0.env x1.env) || !y1) then (bif ((d148_k x0.labels x1.labels) || !(bif y1 then (d148_r0 x0.env x1.env) else false)) then (bif ((d149_k x0.ports x1.ports) || !(bif (bif y1 then (d148_r0 x0.env x1.env) else false) then (d148_r0 x0.labels x1.labels) else false)) then (bif ((d150_k x0.mounts x1.mounts) || !(bif (bif (bif y1 then (d148_r0 x0.env x1.env) else false) then (d148_r0 x0.labels x1.labels) else false) then (d149_r0 x0.ports x1.ports) else false)) then (bif (((fun a _ => ln6 a) x0.nets x1.nets) || !(bif (bif (bif (bif y1 then (d148_r0 x0.env x1.env) else false) then (d148_r0 x0.labels x1.labels) else false) then (d149_r0 x0.ports x1.ports) else false) then (d150_r0 x0.mounts x1.mounts) else false)) then (bif ((d151_k x0.deps x1.deps) || !(bif (bif (bif (bif (bif y1 then (d148_r0 x0.env x1.env) else false) then (d148_r0 x0.labels x1.labels) else false) then (d149_r0 x0.ports x1.ports) else false) then (d150_r0 x0.mounts x1.mounts) else false) then (equal x0.nets x1.nets) else false)) then (some ((bif (bif (bif (bif (bif (bif y1 then (d148_r0 x0.env x1.env) else false) then (d148_r0 x0.labels x1.labels) else false) then (d149_r0 x0.ports x1.ports) else false) then (d150_r0 x0.mounts x1.mounts) else false) then (equal x0.nets x1.nets) else false) then (d151_r0 x0.deps x1.deps) else false))) else (none)) else (none)) else (none)) else (none)) else (none)) else (none)) else (none))
noncomputable def d108_k (x0 : Service) (x1 : Service) : Bool := (d108_m x0 x1).isSome
noncomputable def d108_r0 (x0 : Service) (x1 : Service) : Bool := ((d108_m x0 x1).getD (dflt .bool))
noncomputable def d108_W : FnW E := fn2 (E := E) .api_Service .api_Service .bool d108_k d108_r0
def d108_id : FuncId := 108
noncomputable def d108_O : Oracle E := orac [(151, d151_W), (150, d150_W), (149, d149_W), (148, d148_W), (109, equal_W)] [] [] []
noncomputable def d108_H : Hint E := Hint.mk [] [] [] [] [] 5 []
noncomputable def d108_t (_G : Nat → ASt E → Option (List (TV E))) (x0 x1 : Service) : Option (List (TV E)) :=
  bif (bif (bif (bif (bif (bif (bif (bif (!(x0.name == x1.name)) then true else (!(x0.image == x1.image))) then true else (x0.replicas != x1.replicas)) then true else (!((x0.health.test == x1.health.test) && ((x0.health.every == x1.health.every) && ((x0.health.start == x1.health.start) && ((x0.health.retries == x1.health.retries) && true)))))) then true else (x0.restart != x1.restart)) then true else (x0.tries != x1.tries)) then true else (x0.cpus != x1.cpus)) then true else (x0.mem != x1.mem)) then some [⟨.bool, false⟩] else (bif ((fun a _ => ln6 a) x0.command x1.command) then (let y1 : Bool := (equal x0.command x1.command); bif ((d148_k x0.env x1.env) || !y1) then (bif ((d148_k x0.labels x1.labels) || !(bif y1 then (d148_r0 x0.env x1.env) else false)) then (bif ((d149_k x0.ports x1.ports) || !(bif (bif y1 then (d148_r0 x0.env x1.env) else false) then (d148_r0 x0.labels x1.labels) else false)) then (bif ((d150_k x0.mounts x1.mounts) || !(bif (bif (bif y1 then (d148_r0 x0.env x1.env) else false) then (d148_r0 x0.labels x1.labels) else false) then (d149_r0 x0.ports x1.ports) else false)) then (bif (((fun a _ => ln6 a) x0.nets x1.nets) || !(bif (bif (bif (bif y1 then (d148_r0 x0.env x1.env) else false) then (d148_r0 x0.labels x1.labels) else false) then (d149_r0 x0.ports x1.ports) else false) then (d150_r0 x0.mounts x1.mounts) else false)) then (bif ((d151_k x0.deps x1.deps) || !(bif (bif (bif (bif (bif y1 then (d148_r0 x0.env x1.env) else false) then (d148_r0 x0.labels x1.labels) else false) then (d149_r0 x0.ports x1.ports) else false) then (d150_r0 x0.mounts x1.mounts) else false) then (equal x0.nets x1.nets) else false)) then some [⟨.bool, (bif (bif (bif (bif (bif (bif y1 then (d148_r0 x0.env x1.env) else false) then (d148_r0 x0.labels x1.labels) else false) then (d149_r0 x0.ports x1.ports) else false) then (d150_r0 x0.mounts x1.mounts) else false) then (equal x0.nets x1.nets) else false) then (d151_r0 x0.deps x1.deps) else false)⟩] else none) else none) else none) else none) else none) else none) else none)
theorem d108_e (G : Nat → ASt E → Option (List (TV E))) (x0 : Service) (x1 : Service) : runE d108_O d108_H G Tryz.f108 [⟨.api_Service, x0⟩, ⟨.api_Service, x1⟩] = d108_t G x0 x1 := by kernel_rfl
theorem d108_f : Tryz.prog.funcs[108]? = some Tryz.f108 := by kernel_rfl
theorem d108_n : (Tryz.f108.name == "runtime.NumGoroutine") = false := by kernel_rfl
theorem d108_b : Tryz.f108.body.isNone = false := by kernel_rfl
theorem d108_hO : OracleOk E d108_O := orac_ok (.cons d151_ok (.cons d150_ok (.cons d149_ok (.cons d148_ok (.cons equal_ok .nil))))) .nil .nil .nil
theorem d108_ok_of (h : ∀ (x0 : Service) (x1 : Service), d108_k x0 x1 = true → d108_t (Gr E Tryz.f108 [⟨.bool, d108_r0 x0 x1⟩]) x0 x1 = some [⟨.bool, d108_r0 x0 x1⟩]) : FnOk E d108_id d108_W := fn2_ok d108_hO mix d108_f d108_n d108_b (fun x0 x1 hk => (d108_e _ x0 x1).trans (h x0 x1 hk))
theorem d108_ok : FnOk E d108_id d108_W := d108_ok_of fun x0 x1 hk => by
  have h := some_of (d := (dflt .bool)) hk
  unfold d108_t
  generalize hr : (d108_m x0 x1).getD (dflt .bool) = r at h
  rw [show d108_r0 x0 x1 = r from hr];
  unfold d108_m at h
  exact (bif2 h (fun h => (by have h := Option.some.inj h; subst h; exact rfl)) fun h => (bif2 h (fun h => (bif2 h (fun h => (bif2 h (fun h => (bif2 h (fun h => (bif2 h (fun h => (bif2 h (fun h => (bif2 h (fun h => (by have h := Option.some.inj h; subst h; exact rfl)) fun h => (by cases h))) fun h => (by cases h))) fun h => (by cases h))) fun h => (by cases h))) fun h => (by cases h))) fun h => (by cases h))) fun h => (by cases h)))
noncomputable def d81_m0 : Nat → List (List UInt8) → List (List UInt8) → List (List UInt8) → Int → Int → Option ((List (List UInt8)))
  | 0, _, _, _, _, _ => none
  | f + 1, v0, v1, v2, v3, v4 => bif (decide (v4 < v3)) then (bif (decide ((0 : Int) ≤ v4) && decide (v4 < (v2.length : Int))) then (bif (d57_k v0 (List.getD v2 (Int.toNat v4) (dflt .str))) then (let y4 : Bool := (d57_r0 v0 (List.getD v2 (Int.toNat v4) (dflt .str))); bif (!y4) then (bif (decide ((v1.length + ([(List.getD v2 (Int.toNat v4) (dflt .str))] : List (List UInt8)).length) * 16 ≤ maxBytes)) then (d81_m0 f v0 (v1 ++ ([(List.getD v2 (Int.toNat v4) (dflt .str))] : List (List UInt8))) v2 v3 (w64 (v4 + (1 : Int)))) else (none)) else (d81_m0 f v0 v1 v2 v3 (w64 (v4 + (1 : Int))))) else (none)) else (none)) else (some (v1))
noncomputable def d81_m (x0 : List (List UInt8)) (x1 : List (List UInt8)) : Option ((List (List UInt8))) := bif (ln6k x0) then (let y3 : Int := ((Pl.ksortD x0).length : Int); d81_m0 1000000000 x1 ([] : List (List UInt8)) (Pl.ksortD x0) y3 (0 : Int)) else (none)
noncomputable def d81_k (x0 : List (List UInt8)) (x1 : List (List UInt8)) : Bool := (d81_m x0 x1).isSome
noncomputable def d81_r0 (x0 : List (List UInt8)) (x1 : List (List UInt8)) : List (List UInt8) := ((d81_m x0 x1).getD (dflt .l_str))
noncomputable def d81_W : FnW E := fn2 (E := E) .l_str .l_str .l_str d81_k d81_r0
def d81_id : FuncId := 81
noncomputable def d81_O : Oracle E := orac [(57, d57_W), (30, nsortedk_W)] [] [] []
noncomputable def d81_H : Hint E := Hint.mk [(0, [1, 5, 9, 10, 11])] [] [(0, [(5, none, true, .str)])] [] [] 5 []
noncomputable def d81_C0 (v0 : List (List UInt8)) (v1 : List (List UInt8)) (v2 : List (List UInt8)) (v3 v4 : Int) : ASt E := ASt.mk 25 [(1, .d (.slice .str v0)), (5, .grow .str v1 0), (9, .d (.slice .str v2)), (10, .d (.int .i64 v3)), (11, .d (.int .i64 v4))] [(0, .tail true)] 1
noncomputable def d81_t (G : Nat → ASt E → Option (List (TV E))) (x0 : List (List UInt8)) (x1 : List (List UInt8)) : Option (List (TV E)) :=
  bif (ln6k x0) then (let y3 : Int := ((Pl.ksortD x0).length : Int); G 0 (d81_C0 x1 [] (Pl.ksortD x0) y3 0)) else none
theorem d81_e (G : Nat → ASt E → Option (List (TV E))) (x0 : List (List UInt8)) (x1 : List (List UInt8)) : runE d81_O d81_H G Tryz.f81 [⟨.l_str, x0⟩, ⟨.l_str, x1⟩] = d81_t G x0 x1 := by kernel_rfl
noncomputable def d81_t0 (G : Nat → ASt E → Option (List (TV E))) (v0 : List (List UInt8)) (v1 : List (List UInt8)) (v2 : List (List UInt8)) (v3 v4 : Int) : Option (List (TV E)) :=
  bif (decide (v4 < v3)) then (bif (decide ((0 : Int) ≤ v4) && decide (v4 < (v2.length : Int))) then (bif (d57_k v0 (List.getD v2 (Int.toNat v4) (dflt .str))) then (let y4 : Bool := (d57_r0 v0 (List.getD v2 (Int.toNat v4) (dflt .str))); bif (!y4) then (bif (decide ((v1.length + ([(List.getD v2 (Int.toNat v4) (dflt .str))] : List (List UInt8)).length) * 16 ≤ maxBytes)) then G 0 (d81_C0 v0 (v1 ++ ([(List.getD v2 (Int.toNat v4) (dflt .str))] : List (List UInt8))) v2 v3 (w64 (v4 + (1 : Int)))) else none) else G 0 (d81_C0 v0 v1 v2 v3 (w64 (v4 + (1 : Int))))) else none) else none) else some [⟨.l_str, v1⟩]
theorem d81_l0 (G : Nat → ASt E → Option (List (TV E))) (v0 : List (List UInt8)) (v1 : List (List UInt8)) (v2 : List (List UInt8)) (v3 v4 : Int) : runL d81_O d81_H G Tryz.f81 0 (d81_C0 v0 v1 v2 v3 v4) = d81_t0 G v0 v1 v2 v3 v4 := by kernel_rfl
theorem d81_f : Tryz.prog.funcs[81]? = some Tryz.f81 := by kernel_rfl
theorem d81_n : (Tryz.f81.name == "runtime.NumGoroutine") = false := by kernel_rfl
theorem d81_b : Tryz.f81.body.isNone = false := by kernel_rfl
theorem d81_hO : OracleOk E d81_O := orac_ok (.cons d57_ok (.cons nsortedk_ok .nil)) .nil .nil .nil
theorem d81_s0 {res : List (TV E)} {v0 : List (List UInt8)} {v1 : List (List UInt8)} {v2 : List (List UInt8)} {v3 v4 : Int} (h : d81_t0 (Gr E Tryz.f81 res) v0 v1 v2 v3 v4 = some res) : Ev E Tryz.f81 res 0 (d81_C0 v0 v1 v2 v3 v4) := Ev.step d81_hO mix ((d81_l0 _ v0 v1 v2 v3 v4).trans h)
theorem d81_ok_of (h : ∀ (x0 : List (List UInt8)) (x1 : List (List UInt8)), d81_k x0 x1 = true → d81_t (Gr E Tryz.f81 [⟨.l_str, d81_r0 x0 x1⟩]) x0 x1 = some [⟨.l_str, d81_r0 x0 x1⟩]) : FnOk E d81_id d81_W := fn2_ok d81_hO mix d81_f d81_n d81_b (fun x0 x1 hk => (d81_e _ x0 x1).trans (h x0 x1 hk))
theorem d81_v (f : Nat) : (∀ (v0 : List (List UInt8)) (v1 : List (List UInt8)) (v2 : List (List UInt8)) (v3 : Int) (v4 : Int) (r : (List (List UInt8))), d81_m0 f v0 v1 v2 v3 v4 = some r → Ev E Tryz.f81 [⟨.l_str, r⟩] 0 (d81_C0 v0 v1 v2 v3 v4)) := by
  induction f with
  | zero => exact (fun _ _ _ _ _ _ h => by cases h)
  | succ f ih =>
    exact (fun v0 v1 v2 v3 v4 r h => d81_s0 (by unfold d81_m0 at h; unfold d81_t0; exact (bif2 h (fun h => (bif2 h (fun h => (bif2 h (fun h => (bif2 h (fun h => (bif2 h (fun h => (Gr_of (ih _ _ _ _ _ _ h))) fun h => (by cases h))) fun h => (Gr_of (ih _ _ _ _ _ _ h)))) fun h => (by cases h))) fun h => (by cases h))) fun h => (by have h := Option.some.inj h; subst h; exact rfl))))
theorem d81_ok : FnOk E d81_id d81_W := d81_ok_of fun x0 x1 hk => by
  have h := some_of (d := (dflt .l_str)) hk
  unfold d81_t
  generalize hr : (d81_m x0 x1).getD (dflt .l_str) = r at h
  rw [show d81_r0 x0 x1 = r from hr];
  unfold d81_m at h
  exact (bif2 h (fun h => (Gr_of ((d81_v _) _ _ _ _ _ _ h))) fun h => (by cases h))
noncomputable def d152_m0 : Nat → List (List UInt8) → Int → Int → Int → List UInt8 → List (List UInt8) → List Node → Int → List UInt8 → Option (Node × Bool)
  | 0, _, _, _, _, _, _, _, _, _ => none
  | f + 1, v0, v1, v2, v3, v4, v5, v6, v7, v8 => bif (decide (v2 < v1)) then (bif (decide ((0 : Int) ≤ v2) && decide (v2 < (v0.length : Int))) then (bif (v3 == (2 : Int)) then (let y2 : Int := (v6.length : Int); bif (d143_k (List.getD v0 (Int.toNat v2) (dflt .str)) y2) then (let y3 : Int := (d143_r0 (List.getD v0 (Int.toNat v2) (dflt .str)) y2); let y4 : Int := (d143_r1 (List.getD v0 (Int.toNat v2) (dflt .str)) y2); bif (bif (y4 != (0 : Int)) then true else (y3 == (v6.length : Int))) then (some ((⟨(0 : Int), ([] : List UInt8), ([] : List (List UInt8)), ([] : List Node)⟩ : Node), false)) else (bif (decide ((0 : Int) ≤ y3) && decide (y3 < (v6.length : Int))) then (d152_m0 f v0 v1 (w64 (v2 + (1 : Int))) ((List.getD v6 (Int.toNat y3) (dflt .api_Node)).kind) ((List.getD v6 (Int.toNat y3) (dflt .api_Node)).text) ((List.getD v6 (Int.toNat y3) (dflt .api_Node)).keys) ((List.getD v6 (Int.toNat y3) (dflt .api_Node)).kids) v7 v8) else (none))) else (none)) else (bif ((fun n _ => fit n) (⟨v3, v4, v5, v6⟩ : Node) (List.getD v0 (Int.toNat v2) (dflt .str))) then (let y5 : Node := (getV (⟨v3, v4, v5, v6⟩ : Node) (List.getD v0 (Int.toNat v2) (dflt .str))); let y6 : Bool := (getB (⟨v3, v4, v5, v6⟩ : Node) (List.getD v0 (Int.toNat v2) (dflt .str))); bif (!y6) then (some ((⟨(0 : Int), ([] : List UInt8), ([] : List (List UInt8)), ([] : List Node)⟩ : Node), false)) else (d152_m0 f v0 v1 (w64 (v2 + (1 : Int))) y5.kind y5.text y5.keys y5.kids v7 v8)) else (none))) else (none)) else (some ((⟨v3, v4, v5, v6⟩ : Node), true))
noncomputable def d152_m (x0 : Node) (x1 : List (List UInt8)) : Option (Node × Bool) := let y1 : Int := (x1.length : Int); d152_m0 1000000000 x1 y1 (0 : Int) x0.kind x0.text x0.keys x0.kids (0 : Int) ([] : List UInt8)
noncomputable def d152_k (x0 : Node) (x1 : List (List UInt8)) : Bool := (d152_m x0 x1).isSome
noncomputable def d152_r0 (x0 : Node) (x1 : List (List UInt8)) : Node := ((d152_m x0 x1).getD (dflt .api_Node, dflt .bool)).1
noncomputable def d152_r1 (x0 : Node) (x1 : List (List UInt8)) : Bool := ((d152_m x0 x1).getD (dflt .api_Node, dflt .bool)).2
noncomputable def d152_W : FnW E := fn22 (E := E) .api_Node .l_str .api_Node .bool d152_k d152_r0 d152_r1
def d152_id : FuncId := 152
noncomputable def d152_O : Oracle E := orac [(143, d143_W), (101, nget_W)] [] [] []
noncomputable def d152_H : Hint E := Hint.mk [(0, [2, 4, 12, 13, 14])] [] [] [] [] 5 []
noncomputable def d152_C0 (v0 : List (List UInt8)) (v1 v2 v3 : Int) (v4 : List UInt8) (v5 : List (List UInt8)) (v6 : List Node) (v7 : Int) (v8 : List UInt8) : ASt E := ASt.mk 56 [(2, .ptr 0 0), (4, .ptr 1 0), (12, .d (.slice .str v0)), (13, .d (.int .i64 v1)), (14, .d (.int .i64 v2))] [(0, .box [.d (.int .i64 v3), .d (.str v4), .d (.slice .str v5), .d (.slice .api_Node v6)]), (1, .box [.d (.int .i64 v7), .d (.str v8), .d (.raw (.slice none 0 0)), .d (.raw (.slice none 0 0))])] 2
noncomputable def d152_t (G : Nat → ASt E → Option (List (TV E))) (x0 : Node) (x1 : List (List UInt8)) : Option (List (TV E)) :=
  let y1 : Int := (x1.length : Int); G 0 (d152_C0 x1 y1 0 x0.kind x0.text x0.keys x0.kids 0 [])
theorem d152_e (G : Nat → ASt E → Option (List (TV E))) (x0 : Node) (x1 : List (List UInt8)) : runE d152_O d152_H G Tryz.f152 [⟨.api_Node, x0⟩, ⟨.l_str, x1⟩] = d152_t G x0 x1 := by kernel_rfl
noncomputable def d152_t0 (G : Nat → ASt E → Option (List (TV E))) (v0 : List (List UInt8)) (v1 v2 v3 : Int) (v4 : List UInt8) (v5 : List (List UInt8)) (v6 : List Node) (v7 : Int) (v8 : List UInt8) : Option (List (TV E)) :=
  bif (decide (v2 < v1)) then (bif (decide ((0 : Int) ≤ v2) && decide (v2 < (v0.length : Int))) then (bif (v3 == (2 : Int)) then (let y2 : Int := (v6.length : Int); bif (d143_k (List.getD v0 (Int.toNat v2) (dflt .str)) y2) then (let y3 : Int := (d143_r0 (List.getD v0 (Int.toNat v2) (dflt .str)) y2); let y4 : Int := (d143_r1 (List.getD v0 (Int.toNat v2) (dflt .str)) y2); bif (bif (y4 != (0 : Int)) then true else (y3 == (v6.length : Int))) then some [⟨.api_Node, (⟨0, [], [], []⟩ : Node)⟩, ⟨.bool, false⟩] else (bif (decide ((0 : Int) ≤ y3) && decide (y3 < (v6.length : Int))) then G 0 (d152_C0 v0 v1 (w64 (v2 + (1 : Int))) ((List.getD v6 (Int.toNat y3) (dflt .api_Node)).kind) ((List.getD v6 (Int.toNat y3) (dflt .api_Node)).text) ((List.getD v6 (Int.toNat y3) (dflt .api_Node)).keys) ((List.getD v6 (Int.toNat y3) (dflt .api_Node)).kids) v7 v8) else none)) else none) else (bif ((fun n _ => fit n) (⟨v3, v4, v5, v6⟩ : Node) (List.getD v0 (Int.toNat v2) (dflt .str))) then (let y5 : Node := (getV ⟨v3, v4, v5, v6⟩ (List.getD v0 (Int.toNat v2) (dflt .str))); let y6 : Bool := (getB ⟨v3, v4, v5, v6⟩ (List.getD v0 (Int.toNat v2) (dflt .str))); bif (!y6) then some [⟨.api_Node, (⟨0, [], [], []⟩ : Node)⟩, ⟨.bool, false⟩] else G 0 (d152_C0 v0 v1 (w64 (v2 + (1 : Int))) y5.kind y5.text y5.keys y5.kids v7 v8)) else none)) else none) else some [⟨.api_Node, (⟨v3, v4, v5, v6⟩ : Node)⟩, ⟨.bool, true⟩]
theorem d152_l0 (G : Nat → ASt E → Option (List (TV E))) (v0 : List (List UInt8)) (v1 v2 v3 : Int) (v4 : List UInt8) (v5 : List (List UInt8)) (v6 : List Node) (v7 : Int) (v8 : List UInt8) : runL d152_O d152_H G Tryz.f152 0 (d152_C0 v0 v1 v2 v3 v4 v5 v6 v7 v8) = d152_t0 G v0 v1 v2 v3 v4 v5 v6 v7 v8 := by kernel_rfl
theorem d152_f : Tryz.prog.funcs[152]? = some Tryz.f152 := by kernel_rfl
theorem d152_n : (Tryz.f152.name == "runtime.NumGoroutine") = false := by kernel_rfl
theorem d152_b : Tryz.f152.body.isNone = false := by kernel_rfl
theorem d152_hO : OracleOk E d152_O := orac_ok (.cons d143_ok (.cons nget_ok .nil)) .nil .nil .nil
theorem d152_s0 {res : List (TV E)} {v0 : List (List UInt8)} {v1 v2 v3 : Int} {v4 : List UInt8} {v5 : List (List UInt8)} {v6 : List Node} {v7 : Int} {v8 : List UInt8} (h : d152_t0 (Gr E Tryz.f152 res) v0 v1 v2 v3 v4 v5 v6 v7 v8 = some res) : Ev E Tryz.f152 res 0 (d152_C0 v0 v1 v2 v3 v4 v5 v6 v7 v8) := Ev.step d152_hO mix ((d152_l0 _ v0 v1 v2 v3 v4 v5 v6 v7 v8).trans h)
theorem d152_ok_of (h : ∀ (x0 : Node) (x1 : List (List UInt8)), d152_k x0 x1 = true → d152_t (Gr E Tryz.f152 [⟨.api_Node, d152_r0 x0 x1⟩, ⟨.bool, d152_r1 x0 x1⟩]) x0 x1 = some [⟨.api_Node, d152_r0 x0 x1⟩, ⟨.bool, d152_r1 x0 x1⟩]) : FnOk E d152_id d152_W := fn22_ok d152_hO mix d152_f d152_n d152_b (fun x0 x1 hk => (d152_e _ x0 x1).trans (h x0 x1 hk))
theorem d152_v (f : Nat) : (∀ (v0 : List (List UInt8)) (v1 : Int) (v2 : Int) (v3 : Int) (v4 : List UInt8) (v5 : List (List UInt8)) (v6 : List Node) (v7 : Int) (v8 : List UInt8) (r : Node × Bool), d152_m0 f v0 v1 v2 v3 v4 v5 v6 v7 v8 = some r → Ev E Tryz.f152 [⟨.api_Node, r.1⟩, ⟨.bool, r.2⟩] 0 (d152_C0 v0 v1 v2 v3 v4 v5 v6 v7 v8)) := by
  induction f with
  | zero => exact (fun _ _ _ _ _ _ _ _ _ _ h => by cases h)
  | succ f ih =>
    exact (fun v0 v1 v2 v3 v4 v5 v6 v7 v8 r h => d152_s0 (by unfold d152_m0 at h; unfold d152_t0; exact (bif2 h (fun h => (bif2 h (fun h => (bif2 h (fun h => (bif2 h (fun h => (bif2 h (fun h => (by have h := Option.some.inj h; subst h; exact rfl)) fun h => (bif2 h (fun h => (Gr_of (ih _ _ _ _ _ _ _ _ _ _ h))) fun h => (by cases h)))) fun h => (by cases h))) fun h => (bif2 h (fun h => (bif2 h (fun h => (by have h := Option.some.inj h; subst h; exact rfl)) fun h => (Gr_of (ih _ _ _ _ _ _ _ _ _ _ h)))) fun h => (by cases h)))) fun h => (by cases h))) fun h => (by have h := Option.some.inj h; subst h; exact rfl))))
theorem d152_ok : FnOk E d152_id d152_W := d152_ok_of fun x0 x1 hk => by
  have h := some_of (d := (dflt .api_Node, dflt .bool)) hk
  unfold d152_t
  generalize hr : (d152_m x0 x1).getD (dflt .api_Node, dflt .bool) = r at h
  rw [show d152_r0 x0 x1 = r.1 from congrArg (fun z => z.1) hr]; rw [show d152_r1 x0 x1 = r.2 from congrArg (fun z => z.2) hr];
  unfold d152_m at h
  exact (Gr_of ((d152_v _) _ _ _ _ _ _ _ _ _ _ h))
noncomputable def d222_m (x0 : Int) : Option (Bool) := some ((bif (decide ((32 : Int) ≤ x0)) then (x0 != (127 : Int)) else false))
noncomputable def d222_k (x0 : Int) : Bool := (d222_m x0).isSome
noncomputable def d222_r0 (x0 : Int) : Bool := ((d222_m x0).getD (dflt .bool))
noncomputable def d222_W : FnW E := fn1 (E := E) .byte .bool d222_k d222_r0
def d222_id : FuncId := 222
noncomputable def d222_O : Oracle E := orac [] [] [] []
noncomputable def d222_H : Hint E := Hint.mk [] [] [] [] [] 5 []
noncomputable def d222_t (_G : Nat → ASt E → Option (List (TV E))) (x0 : Int) : Option (List (TV E)) :=
  some [⟨.bool, (bif (decide ((32 : Int) ≤ x0)) then (x0 != (127 : Int)) else false)⟩]
theorem d222_e (G : Nat → ASt E → Option (List (TV E))) (x0 : Int) : runE d222_O d222_H G Tryz.f222 [⟨.byte, x0⟩] = d222_t G x0 := by kernel_rfl
theorem d222_f : Tryz.prog.funcs[222]? = some Tryz.f222 := by kernel_rfl
theorem d222_n : (Tryz.f222.name == "runtime.NumGoroutine") = false := by kernel_rfl
theorem d222_b : Tryz.f222.body.isNone = false := by kernel_rfl
theorem d222_hO : OracleOk E d222_O := orac_ok .nil .nil .nil .nil
theorem d222_ok_of (h : ∀ (x0 : Int), d222_k x0 = true → d222_t (Gr E Tryz.f222 [⟨.bool, d222_r0 x0⟩]) x0 = some [⟨.bool, d222_r0 x0⟩]) : FnOk E d222_id d222_W := fn1_ok d222_hO mix d222_f d222_n d222_b (fun x0 hk => (d222_e _ x0).trans (h x0 hk))
theorem d222_ok : FnOk E d222_id d222_W := d222_ok_of fun x0 hk => by
  have h := some_of (d := (dflt .bool)) hk
  unfold d222_t
  generalize hr : (d222_m x0).getD (dflt .bool) = r at h
  rw [show d222_r0 x0 = r from hr];
  unfold d222_m at h
  exact (by have h := Option.some.inj h; subst h; exact rfl)
noncomputable def d19_m0 : Nat → List UInt8 → List Service → Int → Int → List UInt8 → List UInt8 → Int → List UInt8 → Int → Int → Int → Int → Int → Int → Int → Option (Service × Bool)
  | 0, _, _, _, _, _, _, _, _, _, _, _, _, _, _, _ => none
  | f + 1, v0, v1, v2, v3, v4, v5, v6, v7, v8, v9, v10, v11, v12, v13, v14 => bif (decide (v3 < v2)) then (bif (decide ((0 : Int) ≤ v3) && decide (v3 < (v1.length : Int))) then (bif ((List.getD v1 (Int.toNat v3) (dflt .api_Service)).name == v0) then (some ((⟨(List.getD v1 (Int.toNat v3) (dflt .api_Service)).name, (List.getD v1 (Int.toNat v3) (dflt .api_Service)).image, (List.getD v1 (Int.toNat v3) (dflt .api_Service)).command, (List.getD v1 (Int.toNat v3) (dflt .api_Service)).env, (List.getD v1 (Int.toNat v3) (dflt .api_Service)).labels, (List.getD v1 (Int.toNat v3) (dflt .api_Service)).ports, (List.getD v1 (Int.toNat v3) (dflt .api_Service)).mounts, (List.getD v1 (Int.toNat v3) (dflt .api_Service)).nets, (List.getD v1 (Int.toNat v3) (dflt .api_Service)).deps, (List.getD v1 (Int.toNat v3) (dflt .api_Service)).replicas, ((List.getD v1 (Int.toNat v3) (dflt .api_Service)).health), (List.getD v1 (Int.toNat v3) (dflt .api_Service)).restart, (List.getD v1 (Int.toNat v3) (dflt .api_Service)).tries, (List.getD v1 (Int.toNat v3) (dflt .api_Service)).cpus, (List.getD v1 (Int.toNat v3) (dflt .api_Service)).mem⟩ : Service), true)) else (d19_m0 f v0 v1 v2 (w64 (v3 + (1 : Int))) v4 v5 v6 v7 v8 v9 v10 v11 v12 v13 v14)) else (none)) else (some ((⟨([] : List UInt8), ([] : List UInt8), ([] : List (List UInt8)), ([] : List Var), ([] : List Var), ([] : List Port), ([] : List Mount), ([] : List (List UInt8)), ([] : List Dep), (0 : Int), (⟨([] : List UInt8), (0 : Int), (0 : Int), (0 : Int)⟩ : Check), (0 : Int), (0 : Int), (0 : Int), (0 : Int)⟩ : Service), false))
noncomputable def d19_m (x0 : Project) (x1 : List UInt8) : Option (Service × Bool) := let y1 : Int := (x0.services.length : Int); d19_m0 1000000000 x1 x0.services y1 (0 : Int) ([] : List UInt8) ([] : List UInt8) (0 : Int) ([] : List UInt8) (0 : Int) (0 : Int) (0 : Int) (0 : Int) (0 : Int) (0 : Int) (0 : Int)
noncomputable def d19_k (x0 : Project) (x1 : List UInt8) : Bool := (d19_m x0 x1).isSome
noncomputable def d19_r0 (x0 : Project) (x1 : List UInt8) : Service := ((d19_m x0 x1).getD (dflt .api_Service, dflt .bool)).1
noncomputable def d19_r1 (x0 : Project) (x1 : List UInt8) : Bool := ((d19_m x0 x1).getD (dflt .api_Service, dflt .bool)).2
noncomputable def d19_W : FnW E := fn22 (E := E) .api_Project .str .api_Service .bool d19_k d19_r0 d19_r1
def d19_id : FuncId := 19
noncomputable def d19_O : Oracle E := orac [] [] [] []
noncomputable def d19_H : Hint E := Hint.mk [(0, [1, 4, 9, 10, 11])] [] [] [] [] 5 []
noncomputable def d19_C0 (v0 : List UInt8) (v1 : List Service) (v2 v3 : Int) (v4 v5 : List UInt8) (v6 : Int) (v7 : List UInt8) (v8 v9 v10 v11 v12 v13 v14 : Int) : ASt E := ASt.mk 22 [(1, .d (.str v0)), (4, .ptr 0 0), (9, .d (.slice .api_Service v1)), (10, .d (.int .i64 v2)), (11, .d (.int .i64 v3))] [(0, .box [.d (.str v4), .d (.str v5), .d (.raw (.slice none 0 0)), .d (.raw (.slice none 0 0)), .d (.raw (.slice none 0 0)), .d (.raw (.slice none 0 0)), .d (.raw (.slice none 0 0)), .d (.raw (.slice none 0 0)), .d (.raw (.slice none 0 0)), .d (.int .i64 v6), .d (.str v7), .d (.int .i64 v8), .d (.int .i64 v9), .d (.int .i64 v10), .d (.int .i64 v11), .d (.int .i64 v12), .d (.int .i64 v13), .d (.int .i64 v14)])] 1
noncomputable def d19_t (G : Nat → ASt E → Option (List (TV E))) (x0 : Project) (x1 : List UInt8) : Option (List (TV E)) :=
  let y1 : Int := (x0.services.length : Int); G 0 (d19_C0 x1 x0.services y1 0 [] [] 0 [] 0 0 0 0 0 0 0)
theorem d19_e (G : Nat → ASt E → Option (List (TV E))) (x0 : Project) (x1 : List UInt8) : runE d19_O d19_H G Tryz.f19 [⟨.api_Project, x0⟩, ⟨.str, x1⟩] = d19_t G x0 x1 := by kernel_rfl
noncomputable def d19_t0 (G : Nat → ASt E → Option (List (TV E))) (v0 : List UInt8) (v1 : List Service) (v2 v3 : Int) (v4 v5 : List UInt8) (v6 : Int) (v7 : List UInt8) (v8 v9 v10 v11 v12 v13 v14 : Int) : Option (List (TV E)) :=
  bif (decide (v3 < v2)) then (bif (decide ((0 : Int) ≤ v3) && decide (v3 < (v1.length : Int))) then (bif ((List.getD v1 (Int.toNat v3) (dflt .api_Service)).name == v0) then some [⟨.api_Service, (⟨(List.getD v1 (Int.toNat v3) (dflt .api_Service)).name, (List.getD v1 (Int.toNat v3) (dflt .api_Service)).image, (List.getD v1 (Int.toNat v3) (dflt .api_Service)).command, (List.getD v1 (Int.toNat v3) (dflt .api_Service)).env, (List.getD v1 (Int.toNat v3) (dflt .api_Service)).labels, (List.getD v1 (Int.toNat v3) (dflt .api_Service)).ports, (List.getD v1 (Int.toNat v3) (dflt .api_Service)).mounts, (List.getD v1 (Int.toNat v3) (dflt .api_Service)).nets, (List.getD v1 (Int.toNat v3) (dflt .api_Service)).deps, (List.getD v1 (Int.toNat v3) (dflt .api_Service)).replicas, ((List.getD v1 (Int.toNat v3) (dflt .api_Service)).health), (List.getD v1 (Int.toNat v3) (dflt .api_Service)).restart, (List.getD v1 (Int.toNat v3) (dflt .api_Service)).tries, (List.getD v1 (Int.toNat v3) (dflt .api_Service)).cpus, (List.getD v1 (Int.toNat v3) (dflt .api_Service)).mem⟩ : Service)⟩, ⟨.bool, true⟩] else G 0 (d19_C0 v0 v1 v2 (w64 (v3 + (1 : Int))) v4 v5 v6 v7 v8 v9 v10 v11 v12 v13 v14)) else none) else some [⟨.api_Service, (⟨[], [], [], ([] : List Var), ([] : List Var), ([] : List Port), ([] : List Mount), [], ([] : List Dep), 0, ⟨[], 0, 0, 0⟩, 0, 0, 0, 0⟩ : Service)⟩, ⟨.bool, false⟩]
theorem d19_l0 (G : Nat → ASt E → Option (List (TV E))) (v0 : List UInt8) (v1 : List Service) (v2 v3 : Int) (v4 v5 : List UInt8) (v6 : Int) (v7 : List UInt8) (v8 v9 v10 v11 v12 v13 v14 : Int) : runL d19_O d19_H G Tryz.f19 0 (d19_C0 v0 v1 v2 v3 v4 v5 v6 v7 v8 v9 v10 v11 v12 v13 v14) = d19_t0 G v0 v1 v2 v3 v4 v5 v6 v7 v8 v9 v10 v11 v12 v13 v14 := by kernel_rfl
theorem d19_f : Tryz.prog.funcs[19]? = some Tryz.f19 := by kernel_rfl
theorem d19_n : (Tryz.f19.name == "runtime.NumGoroutine") = false := by kernel_rfl
theorem d19_b : Tryz.f19.body.isNone = false := by kernel_rfl
theorem d19_hO : OracleOk E d19_O := orac_ok .nil .nil .nil .nil
theorem d19_s0 {res : List (TV E)} {v0 : List UInt8} {v1 : List Service} {v2 v3 : Int} {v4 v5 : List UInt8} {v6 : Int} {v7 : List UInt8} {v8 v9 v10 v11 v12 v13 v14 : Int} (h : d19_t0 (Gr E Tryz.f19 res) v0 v1 v2 v3 v4 v5 v6 v7 v8 v9 v10 v11 v12 v13 v14 = some res) : Ev E Tryz.f19 res 0 (d19_C0 v0 v1 v2 v3 v4 v5 v6 v7 v8 v9 v10 v11 v12 v13 v14) := Ev.step d19_hO mix ((d19_l0 _ v0 v1 v2 v3 v4 v5 v6 v7 v8 v9 v10 v11 v12 v13 v14).trans h)
theorem d19_ok_of (h : ∀ (x0 : Project) (x1 : List UInt8), d19_k x0 x1 = true → d19_t (Gr E Tryz.f19 [⟨.api_Service, d19_r0 x0 x1⟩, ⟨.bool, d19_r1 x0 x1⟩]) x0 x1 = some [⟨.api_Service, d19_r0 x0 x1⟩, ⟨.bool, d19_r1 x0 x1⟩]) : FnOk E d19_id d19_W := fn22_ok d19_hO mix d19_f d19_n d19_b (fun x0 x1 hk => (d19_e _ x0 x1).trans (h x0 x1 hk))
theorem d19_v (f : Nat) : (∀ (v0 : List UInt8) (v1 : List Service) (v2 : Int) (v3 : Int) (v4 : List UInt8) (v5 : List UInt8) (v6 : Int) (v7 : List UInt8) (v8 : Int) (v9 : Int) (v10 : Int) (v11 : Int) (v12 : Int) (v13 : Int) (v14 : Int) (r : Service × Bool), d19_m0 f v0 v1 v2 v3 v4 v5 v6 v7 v8 v9 v10 v11 v12 v13 v14 = some r → Ev E Tryz.f19 [⟨.api_Service, r.1⟩, ⟨.bool, r.2⟩] 0 (d19_C0 v0 v1 v2 v3 v4 v5 v6 v7 v8 v9 v10 v11 v12 v13 v14)) := by
  induction f with
  | zero => exact (fun _ _ _ _ _ _ _ _ _ _ _ _ _ _ _ _ h => by cases h)
  | succ f ih =>
    exact (fun v0 v1 v2 v3 v4 v5 v6 v7 v8 v9 v10 v11 v12 v13 v14 r h => d19_s0 (by unfold d19_m0 at h; unfold d19_t0; exact (bif2 h (fun h => (bif2 h (fun h => (bif2 h (fun h => (by have h := Option.some.inj h; subst h; exact rfl)) fun h => (Gr_of (ih _ _ _ _ _ _ _ _ _ _ _ _ _ _ _ _ h)))) fun h => (by cases h))) fun h => (by have h := Option.some.inj h; subst h; exact rfl))))
theorem d19_ok : FnOk E d19_id d19_W := d19_ok_of fun x0 x1 hk => by
  have h := some_of (d := (dflt .api_Service, dflt .bool)) hk
  unfold d19_t
  generalize hr : (d19_m x0 x1).getD (dflt .api_Service, dflt .bool) = r at h
  rw [show d19_r0 x0 x1 = r.1 from congrArg (fun z => z.1) hr]; rw [show d19_r1 x0 x1 = r.2 from congrArg (fun z => z.2) hr];
  unfold d19_m at h
  exact (Gr_of ((d19_v _) _ _ _ _ _ _ _ _ _ _ _ _ _ _ _ _ h))
noncomputable def d50_m (x0 : List (List UInt8)) : Option ((List UInt8)) := bif (okJn x0 ([47] : List UInt8)) then (let y1 : List UInt8 := (Lib.join x0 ([47] : List UInt8)); some (y1)) else (none)
noncomputable def d50_k (x0 : List (List UInt8)) : Bool := (d50_m x0).isSome
noncomputable def d50_r0 (x0 : List (List UInt8)) : List UInt8 := ((d50_m x0).getD (dflt .str))
noncomputable def d50_W : FnW E := fn1 (E := E) .l_str .str d50_k d50_r0
def d50_id : FuncId := 50
noncomputable def d50_O : Oracle E := orac [(63, sjoin_W)] [] [] []
noncomputable def d50_H : Hint E := Hint.mk [] [] [] [] [] 5 []
noncomputable def d50_t (_G : Nat → ASt E → Option (List (TV E))) (x0 : List (List UInt8)) : Option (List (TV E)) :=
  bif (okJn x0 [47]) then (let y1 : List UInt8 := (Lib.join x0 ([47] : List UInt8)); some [⟨.str, y1⟩]) else none
theorem d50_e (G : Nat → ASt E → Option (List (TV E))) (x0 : List (List UInt8)) : runE d50_O d50_H G Tryz.f50 [⟨.l_str, x0⟩] = d50_t G x0 := by kernel_rfl
theorem d50_f : Tryz.prog.funcs[50]? = some Tryz.f50 := by kernel_rfl
theorem d50_n : (Tryz.f50.name == "runtime.NumGoroutine") = false := by kernel_rfl
theorem d50_b : Tryz.f50.body.isNone = false := by kernel_rfl
theorem d50_hO : OracleOk E d50_O := orac_ok (.cons sjoin_ok .nil) .nil .nil .nil
theorem d50_ok_of (h : ∀ (x0 : List (List UInt8)), d50_k x0 = true → d50_t (Gr E Tryz.f50 [⟨.str, d50_r0 x0⟩]) x0 = some [⟨.str, d50_r0 x0⟩]) : FnOk E d50_id d50_W := fn1_ok d50_hO mix d50_f d50_n d50_b (fun x0 hk => (d50_e _ x0).trans (h x0 hk))
theorem d50_ok : FnOk E d50_id d50_W := d50_ok_of fun x0 hk => by
  have h := some_of (d := (dflt .str)) hk
  unfold d50_t
  generalize hr : (d50_m x0).getD (dflt .str) = r at h
  rw [show d50_r0 x0 = r from hr];
  unfold d50_m at h
  exact (bif2 h (fun h => (by have h := Option.some.inj h; subst h; exact rfl)) fun h => (by cases h))
noncomputable def d38_m (x0 : List UInt8) (x1 : List UInt8) : Option ((List UInt8)) := bif (d50_k ([x0, x1] : List (List UInt8))) then (let y1 : List UInt8 := (d50_r0 ([x0, x1] : List (List UInt8))); some (y1)) else (none)
noncomputable def d38_k (x0 : List UInt8) (x1 : List UInt8) : Bool := (d38_m x0 x1).isSome
noncomputable def d38_r0 (x0 : List UInt8) (x1 : List UInt8) : List UInt8 := ((d38_m x0 x1).getD (dflt .str))
noncomputable def d38_W : FnW E := fn2 (E := E) .str .str .str d38_k d38_r0
def d38_id : FuncId := 38
noncomputable def d38_O : Oracle E := orac [(50, d50_W)] [] [] []
noncomputable def d38_H : Hint E := Hint.mk [] [] [] [] [] 5 []
noncomputable def d38_t (_G : Nat → ASt E → Option (List (TV E))) (x0 x1 : List UInt8) : Option (List (TV E)) :=
  bif (d50_k [x0, x1]) then (let y1 : List UInt8 := (d50_r0 [x0, x1]); some [⟨.str, y1⟩]) else none
theorem d38_e (G : Nat → ASt E → Option (List (TV E))) (x0 : List UInt8) (x1 : List UInt8) : runE d38_O d38_H G Tryz.f38 [⟨.str, x0⟩, ⟨.str, x1⟩] = d38_t G x0 x1 := by kernel_rfl
theorem d38_f : Tryz.prog.funcs[38]? = some Tryz.f38 := by kernel_rfl
theorem d38_n : (Tryz.f38.name == "runtime.NumGoroutine") = false := by kernel_rfl
theorem d38_b : Tryz.f38.body.isNone = false := by kernel_rfl
theorem d38_hO : OracleOk E d38_O := orac_ok (.cons d50_ok .nil) .nil .nil .nil
theorem d38_ok_of (h : ∀ (x0 : List UInt8) (x1 : List UInt8), d38_k x0 x1 = true → d38_t (Gr E Tryz.f38 [⟨.str, d38_r0 x0 x1⟩]) x0 x1 = some [⟨.str, d38_r0 x0 x1⟩]) : FnOk E d38_id d38_W := fn2_ok d38_hO mix d38_f d38_n d38_b (fun x0 x1 hk => (d38_e _ x0 x1).trans (h x0 x1 hk))
theorem d38_ok : FnOk E d38_id d38_W := d38_ok_of fun x0 x1 hk => by
  have h := some_of (d := (dflt .str)) hk
  unfold d38_t
  generalize hr : (d38_m x0 x1).getD (dflt .str) = r at h
  rw [show d38_r0 x0 x1 = r from hr];
  unfold d38_m at h
  exact (bif2 h (fun h => (by have h := Option.some.inj h; subst h; exact rfl)) fun h => (by cases h))
noncomputable def d61_m0 : Nat → List UInt8 → List (List UInt8) → List (List UInt8) → Int → Int → Option ((List (List UInt8)))
  | 0, _, _, _, _, _ => none
  | f + 1, v0, v1, v2, v3, v4 => bif (decide (v4 < v3)) then (bif (decide ((0 : Int) ≤ v4) && decide (v4 < (v2.length : Int))) then (bif (d38_k v0 (List.getD v2 (Int.toNat v4) (dflt .str))) then (let y4 : List UInt8 := (d38_r0 v0 (List.getD v2 (Int.toNat v4) (dflt .str))); bif (decide ((v1.length + ([y4] : List (List UInt8)).length) * 16 ≤ maxBytes)) then (d61_m0 f v0 (v1 ++ ([y4] : List (List UInt8))) v2 v3 (w64 (v4 + (1 : Int)))) else (none)) else (none)) else (none)) else (bif (ln6k v1) then (some ((Pl.ksortD v1))) else (none))
noncomputable def d61_m (x0 : List UInt8) (x1 : List (List UInt8)) : Option ((List (List UInt8))) := let y3 : Int := (x1.length : Int); d61_m0 1000000000 x0 ([] : List (List UInt8)) x1 y3 (0 : Int)
noncomputable def d61_k (x0 : List UInt8) (x1 : List (List UInt8)) : Bool := (d61_m x0 x1).isSome
noncomputable def d61_r0 (x0 : List UInt8) (x1 : List (List UInt8)) : List (List UInt8) := ((d61_m x0 x1).getD (dflt .l_str))
noncomputable def d61_W : FnW E := fn2 (E := E) .str .l_str .l_str d61_k d61_r0
def d61_id : FuncId := 61
noncomputable def d61_O : Oracle E := orac [(30, nsortedk_W), (38, d38_W)] [] [] []
noncomputable def d61_H : Hint E := Hint.mk [(0, [0, 5, 8, 9, 10])] [] [(0, [(5, none, true, .str)])] [] [] 5 []
noncomputable def d61_C0 (v0 : List UInt8) (v1 : List (List UInt8)) (v2 : List (List UInt8)) (v3 v4 : Int) : ASt E := ASt.mk 23 [(0, .d (.str v0)), (5, .grow .str v1 0), (8, .d (.slice .str v2)), (9, .d (.int .i64 v3)), (10, .d (.int .i64 v4))] [(0, .tail true)] 1
noncomputable def d61_t (G : Nat → ASt E → Option (List (TV E))) (x0 : List UInt8) (x1 : List (List UInt8)) : Option (List (TV E)) :=
  let y3 : Int := (x1.length : Int); G 0 (d61_C0 x0 [] x1 y3 0)
theorem d61_e (G : Nat → ASt E → Option (List (TV E))) (x0 : List UInt8) (x1 : List (List UInt8)) : runE d61_O d61_H G Tryz.f61 [⟨.str, x0⟩, ⟨.l_str, x1⟩] = d61_t G x0 x1 := by kernel_rfl
noncomputable def d61_t0 (G : Nat → ASt E → Option (List (TV E))) (v0 : List UInt8) (v1 : List (List UInt8)) (v2 : List (List UInt8)) (v3 v4 : Int) : Option (List (TV E)) :=
  bif (decide (v4 < v3)) then (bif (decide ((0 : Int) ≤ v4) && decide (v4 < (v2.length : Int))) then (bif (d38_k v0 (List.getD v2 (Int.toNat v4) (dflt .str))) then (let y4 : List UInt8 := (d38_r0 v0 (List.getD v2 (Int.toNat v4) (dflt .str))); bif (decide ((v1.length + ([y4] : List (List UInt8)).length) * 16 ≤ maxBytes)) then G 0 (d61_C0 v0 (v1 ++ ([y4] : List (List UInt8))) v2 v3 (w64 (v4 + (1 : Int)))) else none) else none) else none) else (bif (ln6k v1) then some [⟨.l_str, (Pl.ksortD v1)⟩] else none)
theorem d61_l0 (G : Nat → ASt E → Option (List (TV E))) (v0 : List UInt8) (v1 : List (List UInt8)) (v2 : List (List UInt8)) (v3 v4 : Int) : runL d61_O d61_H G Tryz.f61 0 (d61_C0 v0 v1 v2 v3 v4) = d61_t0 G v0 v1 v2 v3 v4 := by kernel_rfl
theorem d61_f : Tryz.prog.funcs[61]? = some Tryz.f61 := by kernel_rfl
theorem d61_n : (Tryz.f61.name == "runtime.NumGoroutine") = false := by kernel_rfl
theorem d61_b : Tryz.f61.body.isNone = false := by kernel_rfl
theorem d61_hO : OracleOk E d61_O := orac_ok (.cons nsortedk_ok (.cons d38_ok .nil)) .nil .nil .nil
theorem d61_s0 {res : List (TV E)} {v0 : List UInt8} {v1 : List (List UInt8)} {v2 : List (List UInt8)} {v3 v4 : Int} (h : d61_t0 (Gr E Tryz.f61 res) v0 v1 v2 v3 v4 = some res) : Ev E Tryz.f61 res 0 (d61_C0 v0 v1 v2 v3 v4) := Ev.step d61_hO mix ((d61_l0 _ v0 v1 v2 v3 v4).trans h)
theorem d61_ok_of (h : ∀ (x0 : List UInt8) (x1 : List (List UInt8)), d61_k x0 x1 = true → d61_t (Gr E Tryz.f61 [⟨.l_str, d61_r0 x0 x1⟩]) x0 x1 = some [⟨.l_str, d61_r0 x0 x1⟩]) : FnOk E d61_id d61_W := fn2_ok d61_hO mix d61_f d61_n d61_b (fun x0 x1 hk => (d61_e _ x0 x1).trans (h x0 x1 hk))
theorem d61_v (f : Nat) : (∀ (v0 : List UInt8) (v1 : List (List UInt8)) (v2 : List (List UInt8)) (v3 : Int) (v4 : Int) (r : (List (List UInt8))), d61_m0 f v0 v1 v2 v3 v4 = some r → Ev E Tryz.f61 [⟨.l_str, r⟩] 0 (d61_C0 v0 v1 v2 v3 v4)) := by
  induction f with
  | zero => exact (fun _ _ _ _ _ _ h => by cases h)
  | succ f ih =>
    exact (fun v0 v1 v2 v3 v4 r h => d61_s0 (by unfold d61_m0 at h; unfold d61_t0; exact (bif2 h (fun h => (bif2 h (fun h => (bif2 h (fun h => (bif2 h (fun h => (Gr_of (ih _ _ _ _ _ _ h))) fun h => (by cases h))) fun h => (by cases h))) fun h => (by cases h))) fun h => (bif2 h (fun h => (by have h := Option.some.inj h; subst h; exact rfl)) fun h => (by cases h)))))
theorem d61_ok : FnOk E d61_id d61_W := d61_ok_of fun x0 x1 hk => by
  have h := some_of (d := (dflt .l_str)) hk
  unfold d61_t
  generalize hr : (d61_m x0 x1).getD (dflt .l_str) = r at h
  rw [show d61_r0 x0 x1 = r from hr];
  unfold d61_m at h
  exact (Gr_of ((d61_v _) _ _ _ _ _ _ h))
noncomputable def d34_m0 : Nat → List (List UInt8) → List (List UInt8) → Int → Option (Bool)
  | 0, _, _, _ => none
  | f + 1, v0, v1, v2 => let y3 : Int := (v0.length : Int); bif (decide (v2 < y3)) then (bif (decide ((0 : Int) ≤ v2) && decide (v2 < (v0.length : Int))) then (bif (decide ((0 : Int) ≤ v2) && decide (v2 < (v1.length : Int))) then (bif (!((List.getD v0 (Int.toNat v2) (dflt .str)) == (List.getD v1 (Int.toNat v2) (dflt .str)))) then (some (false)) else (d34_m0 f v0 v1 (w64 (v2 + (1 : Int))))) else (none)) else (none)) else (some (true))
noncomputable def d34_m (x0 : List (List UInt8)) (x1 : List (List UInt8)) : Option (Bool) := let y1 : Int := (x0.length : Int); let y2 : Int := (x1.length : Int); bif (y1 != y2) then (some (false)) else (d34_m0 1000000000 x0 x1 (0 : Int))
noncomputable def d34_k (x0 : List (List UInt8)) (x1 : List (List UInt8)) : Bool := (d34_m x0 x1).isSome
noncomputable def d34_r0 (x0 : List (List UInt8)) (x1 : List (List UInt8)) : Bool := ((d34_m x0 x1).getD (dflt .bool))
noncomputable def d34_W : FnW E := fn2 (E := E) .l_str .l_str .bool d34_k d34_r0
def d34_id : FuncId := 34
noncomputable def d34_O : Oracle E := orac [] [] [] []
noncomputable def d34_H : Hint E := Hint.mk [(0, [0, 1, 5])] [] [] [] [] 5 []
noncomputable def d34_C0 (v0 : List (List UInt8)) (v1 : List (List UInt8)) (v2 : Int) : ASt E := ASt.mk 26 [(0, .d (.slice .str v0)), (1, .d (.slice .str v1)), (5, .d (.int .i64 v2))] [] 0
noncomputable def d34_t (G : Nat → ASt E → Option (List (TV E))) (x0 : List (List UInt8)) (x1 : List (List UInt8)) : Option (List (TV E)) :=
  let y1 : Int := (x0.length : Int); let y2 : Int := (x1.length : Int); bif (y1 != y2) then some [⟨.bool, false⟩] else G 0 (d34_C0 x0 x1 0)
theorem d34_e (G : Nat → ASt E → Option (List (TV E))) (x0 : List (List UInt8)) (x1 : List (List UInt8)) : runE d34_O d34_H G Tryz.f34 [⟨.l_str, x0⟩, ⟨.l_str, x1⟩] = d34_t G x0 x1 := by kernel_rfl
noncomputable def d34_t0 (G : Nat → ASt E → Option (List (TV E))) (v0 : List (List UInt8)) (v1 : List (List UInt8)) (v2 : Int) : Option (List (TV E)) :=
  let y3 : Int := (v0.length : Int); bif (decide (v2 < y3)) then (bif (decide ((0 : Int) ≤ v2) && decide (v2 < (v0.length : Int))) then (bif (decide ((0 : Int) ≤ v2) && decide (v2 < (v1.length : Int))) then (bif (!((List.getD v0 (Int.toNat v2) (dflt .str)) == (List.getD v1 (Int.toNat v2) (dflt .str)))) then some [⟨.bool, false⟩] else G 0 (d34_C0 v0 v1 (w64 (v2 + (1 : Int))))) else none) else none) else some [⟨.bool, true⟩]
theorem d34_l0 (G : Nat → ASt E → Option (List (TV E))) (v0 : List (List UInt8)) (v1 : List (List UInt8)) (v2 : Int) : runL d34_O d34_H G Tryz.f34 0 (d34_C0 v0 v1 v2) = d34_t0 G v0 v1 v2 := by kernel_rfl
theorem d34_f : Tryz.prog.funcs[34]? = some Tryz.f34 := by kernel_rfl
theorem d34_n : (Tryz.f34.name == "runtime.NumGoroutine") = false := by kernel_rfl
theorem d34_b : Tryz.f34.body.isNone = false := by kernel_rfl
theorem d34_hO : OracleOk E d34_O := orac_ok .nil .nil .nil .nil
theorem d34_s0 {res : List (TV E)} {v0 : List (List UInt8)} {v1 : List (List UInt8)} {v2 : Int} (h : d34_t0 (Gr E Tryz.f34 res) v0 v1 v2 = some res) : Ev E Tryz.f34 res 0 (d34_C0 v0 v1 v2) := Ev.step d34_hO mix ((d34_l0 _ v0 v1 v2).trans h)
theorem d34_ok_of (h : ∀ (x0 : List (List UInt8)) (x1 : List (List UInt8)), d34_k x0 x1 = true → d34_t (Gr E Tryz.f34 [⟨.bool, d34_r0 x0 x1⟩]) x0 x1 = some [⟨.bool, d34_r0 x0 x1⟩]) : FnOk E d34_id d34_W := fn2_ok d34_hO mix d34_f d34_n d34_b (fun x0 x1 hk => (d34_e _ x0 x1).trans (h x0 x1 hk))
theorem d34_v (f : Nat) : (∀ (v0 : List (List UInt8)) (v1 : List (List UInt8)) (v2 : Int) (r : Bool), d34_m0 f v0 v1 v2 = some r → Ev E Tryz.f34 [⟨.bool, r⟩] 0 (d34_C0 v0 v1 v2)) := by
  induction f with
  | zero => exact (fun _ _ _ _ h => by cases h)
  | succ f ih =>
    exact (fun v0 v1 v2 r h => d34_s0 (by unfold d34_m0 at h; unfold d34_t0; exact (bif2 h (fun h => (bif2 h (fun h => (bif2 h (fun h => (bif2 h (fun h => (by have h := Option.some.inj h; subst h; exact rfl)) fun h => (Gr_of (ih _ _ _ _ h)))) fun h => (by cases h))) fun h => (by cases h))) fun h => (by have h := Option.some.inj h; subst h; exact rfl))))
theorem d34_ok : FnOk E d34_id d34_W := d34_ok_of fun x0 x1 hk => by
  have h := some_of (d := (dflt .bool)) hk
  unfold d34_t
  generalize hr : (d34_m x0 x1).getD (dflt .bool) = r at h
  rw [show d34_r0 x0 x1 = r from hr];
  unfold d34_m at h
  exact (bif2 h (fun h => (by have h := Option.some.inj h; subst h; exact rfl)) fun h => (Gr_of ((d34_v _) _ _ _ _ h)))
end Go.Proofs.YtoibjelpldfpfaaGreatDoor.Rf
namespace Go.Proofs.YtoibjelpldfpfaaGreatDoor.Mir
open Go Go.RowKit
noncomputable section
section
variable {P : Program} {n : Nat} {r : Option Nat} {ops : Array Oper} {Q Q' : Exit → Act → World → Prop} {K K' : Act → World → Prop} {a : Act} {w : World}
abbrev Wd (r : Option Nat) : Fence := { Fence.wide with round := r }
theorem callsIn_wd {f : FuncId} {args : Array Value} {R : Ending → World → Prop} : CallsIn (Wd r) n P f args w R ↔ Calls P f args w R := callsIn_wide (n := n)
theorem oper_in {o : Oper} (ho : ∀ c, o.op ≠ .defer c) (h : o.wp P a w K Q) : o.wpIn (Wd r) n P a w K Q := by
  refine ⟨fun _ _ => trivial, ?_⟩
  rw [show o.semAt (Wd r).round a.eval = execOp a.eval o from Oper.semAt_eq r a.eval o ho]
  unfold Oper.wp at h
  generalize (execOp a.eval o).run P w = q at *
  cases q with
  | ok x w' =>
    cases x with
    | enter f args => exact ⟨fun h => (by cases h), callsIn_wd.2 h⟩
    | row row args => exact ⟨fun h => (by cases h), fun c cs _ => let ⟨v, w'', hr, hs⟩ := h c cs; ⟨v, w'', hr, stepsIn_wide.2 hs⟩⟩
    | round l f tmps assign body => exact h.elim
    | _ => exact h
  | halt x w' => cases x <;> exact h
theorem oper_monoQ {F : Fence} {o : Oper} (hK : ∀ a w, K a w → K' a w) (hp : ∀ c a w, Q (.panic c) a w → Q' (.panic c) a w) (hl : LetsOut Q → LetsOut Q') (hh : o.wpIn F n P a w K Q) : o.wpIn F n P a w K' Q' := by
  unfold Oper.wpIn at *
  refine ⟨hh.1, ?_⟩
  have hh := hh.2
  generalize (o.semAt F.round a.eval).run P w = q at *
  cases q with
  | ok x w' =>
    cases x <;> simp only [Oper.uponIn] at hh ⊢ <;>
      first
        | exact hK _ _ hh
        | exact ⟨hh.1, CallsIn.mono hh.2 (fun e w'' he => by cases e <;> first | exact hK _ _ he | exact hp _ _ _ he | exact hl he)⟩
        | exact ⟨hh.1, RowsIn.mono hh.2 (fun _ _ he => hK _ _ he)⟩
        | exact ⟨hh.1, RoundIn.mono hh.2 (fun e w'' he => by cases e <;> first | exact hK _ _ he | exact hp _ _ _ he | exact hl he)⟩
  | halt x w' => cases x <;> simp only [Oper.uponIn] at hh ⊢ <;> first | exact hp _ _ _ hh | exact hh
def noDefer : List Oper → Bool
  | [] => true
  | o :: r => (match o.op with | .defer _ => false | _ => true) && noDefer r
theorem op_in (hQ : ¬ LetsOut Q) (hd : noDefer ops.toList = true) {i : Nat} (h : wpOp P ops Q i K a w) : wpOpIn (Wd r) n P ops Q i K a w := by
  have nd : ∀ (l : List Oper), noDefer l = true → ∀ o ∈ l, ∀ c, o.op ≠ .defer c := by
    intro l
    induction l with
    | nil => intro _ o ho; cases ho
    | cons p l ih =>
      intro hl o ho c hc
      simp only [noDefer, Bool.and_eq_true] at hl
      cases ho with
      | head => rw [hc] at hl; simp at hl
      | tail _ ho => exact ih hl.2 o ho c hc
  unfold wpOp at h
  unfold wpOpIn
  cases ho : ops[i]? with
  | none => rw [ho] at h; exact h
  | some o =>
    rw [ho] at h
    simp only at h ⊢
    have hmem : o ∈ ops.toList := by rw [← Array.getElem?_toList] at ho; exact List.mem_of_getElem? ho
    split
    · rename_i hw
      rw [if_pos hw] at h
      rcases h with h | h
      · exact oper_in (nd _ hd o hmem) h
      · exact absurd h.2 hQ
    · rename_i hw
      rw [if_neg hw] at h
      exact ⟨fun _ _ => trivial, h⟩
theorem any_in {md : Region.Mode} (hQ : ¬ LetsOut Q) (hd : noDefer ops.toList = true) : ∀ (fuel : Nat) (listed : Array Bool) (a : Act) (w : World), wpAny P md ops Q fuel listed a w → wpAnyIn (Wd r) n P md ops Q fuel listed a w
  | 0, _, _, _, h => h
  | fuel + 1, listed, a, w, h => ⟨h.1, fun i hi => wpOpIn_mono (fun a w q => any_in hQ hd fuel _ a w q) (op_in hQ hd (h.2 i hi))⟩
def Nm (K : Act → World → Prop) : Exit → Act → World → Prop
  | .normal, a, w => K a w
  | _, _, _ => False
theorem Nm.out : ¬ LetsOut (Nm K) := fun ⟨_, _, h⟩ => h
end
section
variable {P : Program} {E : Env P} {O : Oracle E} {w0 : Start} {ro0 : Nat → Nat → Prop} {S : ASt E} {a : Act} {w w' : World} {ι ι' : Nat → Option Gh} {ro ro' : Nat → Nat → Prop} {n : Nat} {r : Option Nat} {Q : Exit → Act → World → Prop}
theorem any_mono {F : Fence} {md : Region.Mode} {ops : Array Oper} {Q : Exit → Act → World → Prop} : ∀ {fuel : Nat} {listed : Array Bool} {a : Act} {w : World}, wpAnyIn F n P md ops (Nm (Q .normal)) fuel listed a w → wpAnyIn F n P md ops Q fuel listed a w
  | 0, _, _, _, h => h
  | fuel + 1, listed, a, w, h => ⟨h.1, fun i hi => by
    have := h.2 i hi
    unfold wpOpIn at this ⊢
    cases ho : ops[i]? with
    | none => rw [ho] at this; exact any_mono this
    | some o =>
      rw [ho] at this
      simp only at this ⊢
      split
      · rename_i hw
        rw [if_pos hw] at this
        exact oper_monoQ (fun a w q => any_mono q) (fun _ _ _ q => q.elim) (fun q => absurd q Nm.out) this
      · rename_i hw
        rw [if_neg hw] at this
        exact ⟨this.1, any_mono this.2⟩⟩
structure Kept (w : World) (ι : Nat → Option Gh) (ro : Nat → Nat → Prop) (w' : World) (ι' : Nat → Option Gh) (ro' : Nat → Nat → Prop) : Prop where
  cell : ∀ k o, ro k o → ro' k o ∧ w'.cell? ⟨k, o, none⟩ = w.cell? ⟨k, o, none⟩
  ext : ∀ id gh, ι id = some gh → ι' id = some gh
theorem Gam.frame (hg : Gam E w0 ro0 S a w ι ro) {a' : Act} {m nx : Nat} {tm : List (Nat × AV E)} (hd : a'.defers = w0.dl) (hs : a'.tmps.size = m) (ht : TmOk E w ro ι a' tm) (hx : S.next ≤ nx) : Gam E w0 ro0 ⟨m, tm, S.objs, nx⟩ a' w ι ro :=
  ⟨⟨hg.base.below, hg.base.rolt, hg.base.ronew, hg.base.ilt, hd, hg.base.keep, hg.base.held⟩, hs, ht, hg.objs, hg.inj, fun id h => hg.fresh id (Nat.le_trans hx h), fun id o h => Nat.lt_of_lt_of_le (hg.ids id o h) hx⟩
def pickL {α : Type} (l : List (Nat × α)) : List Nat → List (Nat × α)
  | [] => []
  | i :: r => match look l i with
    | some x => (i, x) :: pickL l r
    | none => pickL l r
theorem look_pickL {α : Type} {l : List (Nat × α)} : ∀ {ids : List Nat} {t : Nat} {x : α}, look (pickL l ids) t = some x → look l t = some x
  | [], _, _, h => by cases h
  | i :: r, t, x, h => by
    unfold pickL at h
    split at h
    · rename_i y hy
      simp only [look_nil, look_cons] at h
      split at h
      · rename_i hb
        have := Nat.eq_of_beq_eq_true hb
        subst this
        cases h
        exact hy
      · exact look_pickL h
    · exact look_pickL h
theorem mem_pickL {α : Type} {l : List (Nat × α)} : ∀ {ids : List Nat} {p : Nat × α}, p ∈ pickL l ids → p ∈ l
  | [], _, h => by cases h
  | i :: r, p, h => by
    unfold pickL at h
    split at h
    · rename_i y hy
      cases h with
      | head => exact look_mem _ _ _ hy
      | tail _ h => exact mem_pickL h
    · exact mem_pickL h
def pk (ts ids : List Nat) (nx : Nat) (S : ASt E) : Option (ASt E) := match Nat.ble S.next nx with
  | true => some ⟨S.n, pickL S.tmps ts, pickL S.objs ids, nx⟩
  | false => none
theorem Gam.pick (hnc : NoCond S.tmps) (hg : Gam E w0 ro0 S a w ι ro) {ts ids : List Nat} {nx : Nat} {X : ASt E} (h : pk ts ids nx S = some X) : NoCond X.tmps ∧ Gam E w0 ro0 X a w ι ro ∧ X.n = S.n := by
  unfold pk at h
  split at h
  · rename_i hb
    cases h
    have hx := Nat.le_of_ble_eq_true hb
    exact ⟨fun p hp => hnc p (mem_pickL hp), ⟨hg.base, hg.size, fun t x hl => hg.tmps t x (look_pickL hl), fun id o hl => hg.objs id o (look_pickL hl),
      fun id id' o o' gh gh' k h1 h2 => hg.inj id id' o o' gh gh' k (look_pickL h1) (look_pickL h2), fun id h => hg.fresh id (Nat.le_trans hx h), fun id o h => Nat.lt_of_lt_of_le (hg.ids id o (look_pickL h)) hx⟩, rfl⟩
  · cases h
theorem Kept.refl : Kept w ι ro w ι ro := ⟨fun _ _ h => ⟨h, rfl⟩, fun _ _ h => h⟩
theorem Kept.trans {w2 : World} {ι2 : Nat → Option Gh} {ro2 : Nat → Nat → Prop} (h : Kept w ι ro w' ι' ro') (h' : Kept w' ι' ro' w2 ι2 ro2) : Kept w ι ro w2 ι2 ro2 :=
  ⟨fun k o q => ⟨(h'.cell k o (h.cell k o q).1).1, (h'.cell k o (h.cell k o q).1).2.trans (h.cell k o q).2⟩, fun id gh q => h'.ext id gh (h.ext id gh q)⟩
theorem TmOk.kept {tm : List (Nat × AV E)} (h : TmOk E w ro ι a tm) (hk : Kept w ι ro w' ι' ro') : TmOk E w' ro' ι' a tm := fun t x hl => by
  obtain ⟨v, h1, h2⟩ := h t x hl
  exact ⟨v, h1, h2.mono (fun k o q => (hk.cell k o q).1) (fun k o q => (hk.cell k o q).2) hk.ext⟩
theorem cell_putObj (w : World) {l : Nat} {o o' : Obj} (hl : w.heap[l]? = some o) (h1 : o.isCells = false) (h2 : o'.isCells = false) (k q : Nat) : (w.putObj l o').cell? ⟨k, q, none⟩ = w.cell? ⟨k, q, none⟩ := by
  have hlt := (Array.getElem?_eq_some_iff.1 hl).1
  by_cases e : k = l
  · subst e
    unfold World.cell?
    rw [World.putObj_heap_same hlt, hl]
    cases o <;> cases o' <;> first | rfl | (cases h2; done) | (cases h1; done)
  · unfold World.cell?
    rw [World.putObj_heap_other e]
theorem Gam.put {m nx : Nat} {tm : List (Nat × AV E)} {objs : List (Nat × AObj E)} (hg : Gam E w0 ro0 ⟨m, tm, objs, nx⟩ a w ι ro) (hnc : NoCond tm) {d : Nat} {val : Value} {x : AV E} (hd : d < m) (hv : Rep E w ro ι val x) (hx : isCond x = false) :
    Gam E w0 ro0 ⟨m, (d, x) :: tm, objs, nx⟩ (a.put (some d) val) w ι ro ∧ NoCond ((d, x) :: tm) := by
  refine ⟨⟨⟨hg.base.below, hg.base.rolt, hg.base.ronew, hg.base.ilt, hg.base.defers, hg.base.keep, hg.base.held⟩, put_size.trans hg.size, fun t y hl => ?_, hg.objs, hg.inj, hg.fresh, hg.ids⟩, fun p hp => ?_⟩
  · simp only [look_nil, look_cons] at hl
    split at hl
    · rename_i hb
      have := Nat.eq_of_beq_eq_true hb
      subst this
      cases hl
      refine ⟨val, ?_, by cases x <;> first | exact hv | cases hx⟩
      have hs : a.tmps.size = m := hg.size
      simp [Act.put, hs, hd]
    · rename_i hb
      obtain ⟨v, h1, h2⟩ := hg.tmps t y hl
      have hne : d ≠ t := fun e => hb (by subst e; exact Nat.beq_refl d)
      refine ⟨v, (put_get (fun e => hne (by injection e))).trans h1, ?_⟩
      have hc := hnc _ (look_mem _ _ _ hl)
      cases y <;> first | exact h2 | cases hc
  · cases hp with
    | head => exact hx
    | tail _ hp => exact hnc p hp
end
end
end Go.Proofs.YtoibjelpldfpfaaGreatDoor.Mir
namespace Go.Proofs.YtoibjelpldfpfaaGreatDoor.Mir
open Go Go.RowKit
noncomputable section
section
variable {P : Program} {E : Env P}
def dedL {α : Type} : List (Nat × α) → List (Nat × α) → List (Nat × α)
  | [], acc => acc
  | (i, x) :: r, acc => match look acc i with
    | some _ => dedL r acc
    | none => dedL r ((i, x) :: acc)
theorem dedL_old {α : Type} {i : Nat} {x z : α} {r acc : List (Nat × α)} (h : look acc i = some z) : dedL ((i, x) :: r) acc = dedL r acc := by
  rw [dedL.eq_2, h]
theorem dedL_new {α : Type} {i : Nat} {x : α} {r acc : List (Nat × α)} (h : look acc i = none) : dedL ((i, x) :: r) acc = dedL r ((i, x) :: acc) := by
  rw [dedL.eq_2, h]
theorem dedL_look {α : Type} : ∀ (L acc : List (Nat × α)) (j : Nat) (y : α), look (dedL L acc) j = some y → look acc j = some y ∨ (look acc j = none ∧ look L j = some y)
  | [], acc, j, y, h => .inl h
  | (i, x) :: r, acc, j, y, h => by
    cases hi : look acc i with
    | some z =>
      rw [dedL_old hi] at h
      rcases dedL_look r acc j y h with h | ⟨h1, h2⟩
      · exact .inl h
      · refine .inr ⟨h1, ?_⟩
        simp only [look_nil, look_cons]
        split
        · rename_i hb
          have := Nat.eq_of_beq_eq_true hb
          subst this
          rw [hi] at h1; cases h1
        · exact h2
    | none =>
      rw [dedL_new hi] at h
      rcases dedL_look r _ j y h with hq | ⟨h1, h2⟩
      · simp only [look_nil, look_cons] at hq
        split at hq
        · rename_i hb
          have := Nat.eq_of_beq_eq_true hb
          subst this
          exact .inr ⟨hi, by simpa [look] using hq⟩
        · exact .inl hq
      · simp only [look_nil, look_cons] at h1
        split at h1
        · cases h1
        · rename_i hb
          exact .inr ⟨h1, by simp only [look_nil, look_cons]; rw [if_neg hb]; exact h2⟩
theorem dedL_nil {α : Type} {L : List (Nat × α)} {j : Nat} {y : α} (h : look (dedL L []) j = some y) : look L j = some y := by
  rcases dedL_look L [] j y h with h | h
  · cases h
  · exact h.2
theorem dedL_mem {α : Type} : ∀ (L acc : List (Nat × α)) (p : Nat × α), p ∈ dedL L acc → p ∈ acc ∨ p ∈ L
  | [], acc, p, h => .inl h
  | (i, x) :: r, acc, p, h => by
    unfold dedL at h
    split at h
    · rcases dedL_mem r acc p h with h | h
      · exact .inl h
      · exact .inr (.tail _ h)
    · rcases dedL_mem r _ p h with h | h
      · cases h with
        | head => exact .inr (.head _)
        | tail _ h => exact .inl h
      · exact .inr (.tail _ h)
def isDead : AObj E → Bool
  | .dead => true
  | _ => false
def liveL : List (Nat × AObj E) → List (Nat × AObj E) → List (Nat × AObj E)
  | [], acc => acc
  | (i, o) :: r, acc => match isDead o with
    | true => liveL r acc
    | false => liveL r ((i, o) :: acc)
theorem look_mem_iff {α : Type} : ∀ (L : List (Nat × α)) (p : Nat × α), p ∈ L → (L.map (·.1)).Nodup → look L p.1 = some p.2
  | (i, x) :: r, p, h, hn => by
    simp only [List.map_cons, List.nodup_cons] at hn
    cases h with
    | head => simp [look_nil, look_cons]
    | tail _ h =>
      simp only [look_nil, look_cons]
      split
      · rename_i hb
        have := Nat.eq_of_beq_eq_true hb
        exact absurd (List.mem_map.2 ⟨p, h, this.symm⟩) hn.1
      · exact look_mem_iff r p h hn.2
theorem dedL_nodup {α : Type} : ∀ (L acc : List (Nat × α)), (acc.map (·.1)).Nodup → ((dedL L acc).map (·.1)).Nodup
  | [], acc, h => h
  | (i, x) :: r, acc, h => by
    unfold dedL
    cases hi : look acc i with
    | some z => exact dedL_nodup r acc h
    | none =>
      refine dedL_nodup r _ ?_
      simp only [List.map_cons, List.nodup_cons]
      refine ⟨fun hm => ?_, h⟩
      obtain ⟨p, hp, he⟩ := List.mem_map.1 hm
      have := look_mem_iff acc p hp h
      have he : p.1 = i := he
      rw [he, hi] at this; cases this
theorem liveL_mem : ∀ (L acc : List (Nat × AObj E)) (p : Nat × AObj E), p ∈ liveL L acc → p ∈ acc ∨ p ∈ L
  | [], acc, p, h => .inl h
  | (i, o) :: r, acc, p, h => by
    unfold liveL at h
    split at h
    · rcases liveL_mem r acc p h with h | h
      · exact .inl h
      · exact .inr (.tail _ h)
    · rcases liveL_mem r _ p h with h | h
      · cases h with
        | head => exact .inr (.head _)
        | tail _ h => exact .inl h
      · exact .inr (.tail _ h)
theorem liveL_look {L : List (Nat × AObj E)} {j : Nat} {y : AObj E} (h : look (liveL (dedL L []) []) j = some y) : look L j = some y := by
  have hm := look_mem _ _ _ h
  rcases liveL_mem _ _ _ hm with hm | hm
  · cases hm
  · exact dedL_nil (look_mem_iff (dedL L []) (j, y) hm (dedL_nodup L [] (by simp)))
def frcN {R : Type} (m : Nat) (k : Nat → R) : R := match m with
  | 0 => k 0
  | m + 1 => k (Nat.succ m)
def frcI {R : Type} (n : Int) (k : Int → R) : R := match n with
  | .ofNat m => frcN m fun m => k (.ofNat m)
  | .negSucc m => frcN m fun m => k (.negSucc m)
def frcS {α R : Type} (l : List α) (k : List α → R) : R := List.rec (motive := fun _ => (List α → R) → R) (fun k => k []) (fun a _ ih k => ih fun r => k (a :: r)) l k
def frcD {R : Type} (c : DVal E.Den) (k : DVal E.Den → R) : R := match c with
  | .int kd n => frcI n fun n => k (.int kd n)
  | .bool b => Bool.rec (motive := fun _ => R) (k (.bool false)) (k (.bool true)) b
  | .str s => frcS s fun s => k (.str s)
  | .slice t l => frcS l fun l => k (.slice t l)
  | c => k c
def frcC {R : Type} (v : AV E) (k : AV E → R) : R := match v with
  | .d c => frcD c fun c => k (.d c)
  | .grow t l id => frcS l fun l => frcN id fun id => k (.grow t l id)
  | .ptr id off => frcN id fun id => frcN off fun off => k (.ptr id off)
  | .row t n id => frcN n fun n => frcN id fun id => k (.row t n id)
  | v => k v
def frcCs {R : Type} (l : List (AV E)) (k : List (AV E) → R) : R := List.rec (motive := fun _ => (List (AV E) → R) → R) (fun k => k []) (fun v _ ih k => frcC v fun v => ih fun r => k (v :: r)) l k
def frcV {R : Type} (v : AV E) (k : AV E → R) : R := match v with
  | .agg cs => frcCs cs fun cs => k (.agg cs)
  | .tup cs => frcCs cs fun cs => k (.tup cs)
  | v => frcC v k
def frcL {R : Type} : List (AV E) → (List (AV E) → R) → R
  | [], k => k []
  | v :: r, k => frcV v fun v => frcL r fun r => k (v :: r)
def frcO {R : Type} (o : AObj E) (k : AObj E → R) : R := match o with
  | .box cs => frcL cs fun cs => k (.box cs)
  | o => k o
def frcT {R : Type} : List (Nat × AV E) → (List (Nat × AV E) → R) → R
  | [], k => k []
  | (i, v) :: r, k => frcV v fun v => frcT r fun r => k ((i, v) :: r)
def frcOs {R : Type} : List (Nat × AObj E) → (List (Nat × AObj E) → R) → R
  | [], k => k []
  | (i, o) :: r, k => frcO o fun o => frcOs r fun r => k ((i, o) :: r)
theorem frcN_eq {R : Type} {m : Nat} {k : Nat → R} : frcN m k = k m := by cases m <;> rfl
theorem frcI_eq {R : Type} {n : Int} {k : Int → R} : frcI n k = k n := by
  cases n with
  | ofNat m => exact frcN_eq (k := fun m => k (.ofNat m))
  | negSucc m => exact frcN_eq (k := fun m => k (.negSucc m))
theorem frcS_eq {α R : Type} : ∀ {l : List α} {k : List α → R}, frcS l k = k l
  | [], _ => rfl
  | a :: r, k => by
    show frcS r (fun r => k (a :: r)) = _
    rw [frcS_eq]
theorem frcD_eq {R : Type} {c : DVal E.Den} {k : DVal E.Den → R} : frcD c k = k c := by
  cases c with
  | int kd n => exact frcI_eq (k := fun n => k (.int kd n))
  | bool b => cases b <;> rfl
  | str s => exact frcS_eq (k := fun s => k (.str s))
  | slice t l => exact frcS_eq (k := fun l => k (.slice t l))
  | _ => rfl
theorem frcC_eq {R : Type} {v : AV E} {k : AV E → R} : frcC v k = k v := by
  cases v with
  | d c => exact frcD_eq (k := fun c => k (.d c))
  | grow t l id => show frcS l (fun l => frcN id fun id => k (.grow t l id)) = _; rw [frcS_eq, frcN_eq]
  | ptr id off => show frcN id (fun id => frcN off fun off => k (.ptr id off)) = _; rw [frcN_eq, frcN_eq]
  | row t n id => show frcN n (fun n => frcN id fun id => k (.row t n id)) = _; rw [frcN_eq, frcN_eq]
  | _ => rfl
theorem frcCs_eq {R : Type} : ∀ {l : List (AV E)} {k : List (AV E) → R}, frcCs l k = k l
  | [], _ => rfl
  | v :: r, k => by
    show frcC v (fun v => frcCs r fun r => k (v :: r)) = _
    rw [frcC_eq, frcCs_eq]
theorem frcV_eq {R : Type} {v : AV E} {k : AV E → R} : frcV v k = k v := by
  unfold frcV
  split
  · exact frcCs_eq (k := fun cs => k (.agg cs))
  · exact frcCs_eq (k := fun cs => k (.tup cs))
  · exact frcC_eq
theorem frcL_eq {R : Type} : ∀ {l : List (AV E)} {k : List (AV E) → R}, frcL l k = k l
  | [], _ => rfl
  | v :: r, k => by unfold frcL; rw [frcV_eq, frcL_eq]
theorem frcO_eq {R : Type} {o : AObj E} {k : AObj E → R} : frcO o k = k o := by
  unfold frcO
  split
  · exact frcL_eq
  · rfl
theorem frcT_eq {R : Type} : ∀ {l : List (Nat × AV E)} {k : List (Nat × AV E) → R}, frcT l k = k l
  | [], _ => rfl
  | (i, v) :: r, k => by unfold frcT; rw [frcV_eq, frcT_eq]
theorem frcOs_eq {R : Type} : ∀ {l : List (Nat × AObj E)} {k : List (Nat × AObj E) → R}, frcOs l k = k l
  | [], _ => rfl
  | (i, v) :: r, k => by unfold frcOs; rw [frcO_eq, frcOs_eq]
def putLk {R : Type} (d : Option Nat) (v : AV E) (tm : List (Nat × AV E)) (k : List (Nat × AV E) → R) : R := match d with
  | some d => frcN d fun d => k ((d, v) :: tm)
  | none => k tm
theorem putLk_eq {R : Type} {d : Option Nat} {v : AV E} {tm : List (Nat × AV E)} {k : List (Nat × AV E) → R} : putLk d v tm k = k (putL d v tm) := by
  cases d with
  | none => rfl
  | some d => exact frcN_eq (k := fun d => k ((d, v) :: tm))
def putOk {R : Type} (objs : List (Nat × AObj E)) (nid : Nat) (r : Res E) (k : List (Nat × AObj E) → R) : R := match r.new with
  | none => (match r.upd with
    | none => k objs
    | some (id, o) => frcN id fun id => frcO o fun o => k ((id, o) :: objs))
  | some n => frcO n fun n => (match r.upd with
    | none => k ((nid, n) :: objs)
    | some (id, o) => frcN id fun id => frcO o fun o => k ((nid, n) :: (id, o) :: objs))
theorem putOk_eq {R : Type} {objs : List (Nat × AObj E)} {nid : Nat} {r : Res E} {k : List (Nat × AObj E) → R} : putOk objs nid r k = k (putO objs nid r) := by
  unfold putOk putO
  cases r.new with
  | none =>
    cases r.upd with
    | none => rfl
    | some u => obtain ⟨id, o⟩ := u; show frcN id (fun id => frcO o fun o => k ((id, o) :: objs)) = _; rw [frcN_eq, frcO_eq]; rfl
  | some n =>
    cases r.upd with
    | none => show frcO n (fun n => k ((nid, n) :: objs)) = _; rw [frcO_eq]; rfl
    | some u => obtain ⟨id, o⟩ := u; show frcO n (fun n => frcN id fun id => frcO o fun o => k ((nid, n) :: (id, o) :: objs)) = _; rw [frcO_eq, frcN_eq, frcO_eq]; rfl
def normS {R : Type} (b : Bool) (S : ASt E) (k : ASt E → R) : R := match b with
  | true => frcT (dedL S.tmps []) fun tm => frcOs (liveL (dedL S.objs []) []) fun ob => frcN S.next fun nx => k ⟨S.n, tm, ob, nx⟩
  | false => k ⟨S.n, dedL S.tmps [], liveL (dedL S.objs []) [], S.next⟩
theorem normS_eq {R : Type} {b : Bool} {S : ASt E} {k : ASt E → R} : normS b S k = k ⟨S.n, dedL S.tmps [], liveL (dedL S.objs []) [], S.next⟩ := by
  unfold normS
  cases b with
  | true => show frcT _ _ = _; rw [frcT_eq, frcOs_eq, frcN_eq]
  | false => rfl
def stepK {R : Type} (b : Bool) (r : Res E) (d : Option Nat) (tm : List (Nat × AV E)) (objs : List (Nat × AObj E)) (next : Nat) (k : List (Nat × AV E) → List (Nat × AObj E) → Nat → R) : R := match b with
  | true => frcV r.v fun v => frcN (next + 1) fun nx => putLk d v tm fun tm' => putOk objs next r fun objs' => k tm' objs' nx
  | false => k (putL d r.v tm) (putO objs next r) (next + 1)
theorem stepK_eq {R : Type} {b : Bool} {r : Res E} {d : Option Nat} {tm : List (Nat × AV E)} {objs : List (Nat × AObj E)} {next : Nat} {k : List (Nat × AV E) → List (Nat × AObj E) → Nat → R} : stepK b r d tm objs next k = k (putL d r.v tm) (putO objs next r) (next + 1) := by
  unfold stepK
  cases b with
  | true => simp only [frcV_eq, frcN_eq, putLk_eq, putOk_eq]
  | false => rfl
theorem Gam.sub {w0 : Start} {ro0 : Nat → Nat → Prop} {n nx : Nat} {tm tm' : List (Nat × AV E)} {objs objs' : List (Nat × AObj E)} {a : Act} {w : World} {ι : Nat → Option Gh} {ro : Nat → Nat → Prop} (hg : Gam E w0 ro0 ⟨n, tm, objs, nx⟩ a w ι ro)
    (ht : ∀ t x, look tm' t = some x → look tm t = some x) (ho : ∀ id o, look objs' id = some o → look objs id = some o) : Gam E w0 ro0 ⟨n, tm', objs', nx⟩ a w ι ro :=
  ⟨hg.base, hg.size, fun t x h => hg.tmps t x (ht t x h), fun id o h => hg.objs id o (ho id o h), fun id id' o o' gh gh' k h1 h2 => hg.inj id id' o o' gh gh' k (ho _ _ h1) (ho _ _ h2), hg.fresh, fun id o h => hg.ids id o (ho id o h)⟩
theorem Gam.norm {w0 : Start} {ro0 : Nat → Nat → Prop} {S : ASt E} {a : Act} {w : World} {ι : Nat → Option Gh} {ro : Nat → Nat → Prop} (hnc : NoCond S.tmps) (hg : Gam E w0 ro0 S a w ι ro) :
    Gam E w0 ro0 ⟨S.n, dedL S.tmps [], liveL (dedL S.objs []) [], S.next⟩ a w ι ro ∧ NoCond (dedL S.tmps []) :=
  ⟨Gam.sub (n := S.n) (tm := S.tmps) (objs := S.objs) (nx := S.next) hg (fun _ _ h => dedL_nil h) (fun _ _ h => liveL_look h), fun p hp => by
    rcases dedL_mem _ _ _ hp with h | h
    · cases h
    · exact hnc p h⟩
structure Rnd (E : Env P) where
  frc : Bool
  run : {R : Type} → Nat → List (AV E) → List (Nat × AObj E) → Nat → (AV E → List (Nat × AObj E) → Nat → Option R) → Option R
def Rnd.nil : Rnd E := ⟨true, fun _ _ _ _ _ => none⟩
def plainO (o : Oper) : Oper := { o with guard := none }
def wantR (ops : Array Oper) (tm : List (Nat × AV E)) (o : Oper) : Option Bool := match o.guard with
  | none => some true
  | some (j, want) => match dstOf ops j with
    | some gs => (match look tm gs with
      | some (.d (.bool b)) => some (bif want then b else !b)
      | some (.tup []) => some false
      | _ => none)
    | none => none
def pickV (tm : List (Nat × AV E)) (o : Oper) : Option (AV E) := match o.op with
  | .pick c a b => (match getA tm [] c with
    | .d (.bool true) => some (getA tm [] a)
    | .d (.bool false) => some (getA tm [] b)
    | _ => none)
  | _ => none
def yldOf (tm : List (Nat × AV E)) (o : Oper) : Option (Nat × List (AV E)) := match o.op with
  | .call c => (match c.callee with
    | .value x => (match getA tm [] x with
      | .yl id => some (id, argsA tm [] c.args)
      | _ => none)
    | _ => none)
  | _ => none
def dstR (n : Nat) : Option Nat → Bool
  | none => true
  | some d => Nat.blt d n
def evSeqR {R : Type} (O : Oracle E) (Y : Rnd E) (ops : Array Oper) (n : Nat) : List Oper → List (Nat × AV E) → List (Nat × AObj E) → Nat → (ASt E → Option R) → Option R
  | [], tm, objs, next, k => k ⟨n, tm, objs, next⟩
  | o :: rest, tm, objs, next, k => match dstR n o.dst, wantR ops tm o with
    | true, some false => evSeqR O Y ops n rest (putL o.dst (.tup []) tm) objs next k
    | true, some true => (match yldOf tm o with
      | some (id, args) => Y.run id args objs next fun v objs' next' => (match isCond v with
        | true => none
        | false => evSeqR O Y ops n rest (putL o.dst v tm) objs' next' k)
      | none => (match pickV tm o with
      | some v => (match isCond v with
        | true => none
        | false => evSeqR O Y ops n rest (putL o.dst v tm) objs next k)
      | none => (match inlOf O.inl ⟨n, tm, objs, next⟩ (plainO o) with
        | some (f, args) => O.inl.run f args objs next fun v objs' next' => (match isCond v with
          | true => none
          | false => evSeqR O Y ops n rest (putL o.dst v tm) objs' next' k)
        | none => (match evG O ops ⟨n, tm, objs, next⟩ (plainO o) with
          | some r => (match r.ok with
            | true => stepK Y.frc r o.dst tm objs next fun tm' objs' nx => evSeqR O Y ops n rest tm' objs' nx k
            | false => none)
          | none => none))))
    | _, _ => none
def RndOk (E : Env P) (Y : Rnd E) : Prop := ∀ {R : Type} (id : Nat) (args : List (AV E)) (objs : List (Nat × AObj E)) (next : Nat) (k : AV E → List (Nat × AObj E) → Nat → Option R) (rr : R), Y.run id args objs next k = some rr →
  ∀ (w0 : Start) (ro0 : Nat → Nat → Prop) (a : Act) (w : World) (ι : Nat → Option Gh) (ro : Nat → Nat → Prop) (vals : List Value), Base w0 ro0 a w ι ro → (∀ (id : Nat) o, look objs id = some o → ObjOk E w ro ι id o) → Inj E objs ι → (∀ id, next ≤ id → ι id = none) →
    (∀ id o, look objs id = some o → id < next) → vals.length = args.length → (∀ (i : Nat) v x, vals[i]? = some v → args[i]? = some x → Rep E w ro ι v x) →
    ∀ gh l, ι id = some gh → gh.blk = some l → ∃ fn tmps assign body, (Instr.yield l vals.toArray).run P w = .ok (.round l fn tmps assign body) w ∧
      ∀ (r : Option Nat) (n : Nat), RoundIn (Wd r) n P l fn tmps assign body w fun e w' => ∃ (v : Value) (x : AV E) (objs' : List (Nat × AObj E)) (next' : Nat) (ι' : Nat → Option Gh) (ro' : Nat → Nat → Prop), e = .returned v ∧ k x objs' next' = some rr ∧ Rep E w' ro' ι' v x ∧ Base w0 ro0 a w' ι' ro' ∧
        (∀ (id : Nat) o, look objs' id = some o → ObjOk E w' ro' ι' id o) ∧ Inj E objs' ι' ∧ (∀ id, next' ≤ id → ι' id = none) ∧ (∀ id o, look objs' id = some o → id < next') ∧
        (∀ k o, ro k o → ro' k o ∧ w'.cell? ⟨k, o, none⟩ = w.cell? ⟨k, o, none⟩) ∧ ∀ id gh, ι id = some gh → ι' id = some gh
theorem condFree_nc : ∀ {tm : List (Nat × AV E)} {d : Nat}, NoCond tm → condFree d tm = true
  | [], _, _ => rfl
  | (t, x) :: r, d, h => by
    have h1 : isCond x = false := h _ List.mem_cons_self
    have h2 := condFree_nc (d := d) (tm := r) (fun p hp => h p (List.mem_cons_of_mem _ hp))
    cases x <;> first | exact h2 | cases h1
theorem dstOk_nc {n : Nat} {d : Option Nat} {x : AV E} {tm : List (Nat × AV E)} (h : NoCond tm) (hx : isCond x = false) (hd : dstR n d = true) : dstOk n d ((0, x) :: tm) = true := by
  cases d with
  | none => rfl
  | some d =>
    unfold dstOk
    simp only [Bool.and_eq_true]
    refine ⟨hd, condFree_nc fun p hp => ?_⟩
    cases hp with
    | head => exact hx
    | tail _ hp => exact h p hp
theorem nc_putL {d : Option Nat} {x : AV E} {tm : List (Nat × AV E)} (h : NoCond tm) (hx : isCond x = false) : NoCond (putL d x tm) := by
  cases d with
  | none => exact h
  | some d =>
    intro p hp
    cases hp with
    | head => exact hx
    | tail _ hp => exact h p hp
theorem plainO_wp {o : Oper} {a : Act} {w : World} {K : Act → World → Prop} {Q : Exit → Act → World → Prop} (h : (plainO o).wp P a w K Q) : o.wp P a w K Q := h
theorem Gam.putR {w0 : Start} {ro0 : Nat → Nat → Prop} {n nx : Nat} {tm : List (Nat × AV E)} {objs : List (Nat × AObj E)} {a : Act} {w : World} {ι : Nat → Option Gh} {ro : Nat → Nat → Prop} (hg : Gam E w0 ro0 ⟨n, tm, objs, nx⟩ a w ι ro) (hnc : NoCond tm) {d : Option Nat} {val : Value} {x : AV E} (hd : dstR n d = true) (hv : Rep E w ro ι val x) (hx : isCond x = false) :
    Gam E w0 ro0 ⟨n, putL d x tm, objs, nx⟩ (a.put d val) w ι ro := by
  cases d with
  | none => exact hg
  | some d => exact (hg.put hnc (Nat.le_of_ble_eq_true hd) hv hx).1
theorem rep_undef {w : World} {ι : Nat → Option Gh} {ro : Nat → Nat → Prop} : Rep E w ro ι undef (.tup []) := .tup #[] [] rfl fun j v c h => by simp at h
end
section
variable {P : Program} {E : Env P} {O : Oracle E} {Y : Rnd E} {w0 : Start} {ro0 : Nat → Nat → Prop} {n nn : Nat} {r : Option Nat}
theorem wantR_sound {ops : Array Oper} {tm : List (Nat × AV E)} {o : Oper} {b : Bool} {a : Act} {w : World} {ι : Nat → Option Gh} {ro : Nat → Nat → Prop} (ht : TmOk E w ro ι a tm) (h : wantR ops tm o = some b) : Region.wanted o (yielded ops a.tmps) = b := by
  unfold wantR at h
  split at h
  · rename_i hg
    cases h
    simp [Region.wanted, hg]
  · rename_i j want hg
    split at h
    · rename_i gs hgs
      split at h
      · rename_i b' hl
        cases h
        obtain ⟨v, hv, hr⟩ := ht gs _ hl
        have hr : Rep E w ro ι v (.d (.bool b')) := hr
        have e : v = .bool b' := by
          cases hr with
          | d _ _ hd => cases hd; rfl
        subst e
        unfold dstOf at hgs
        simp only [Region.wanted, hg, yielded, hgs, Option.bind_some, hv]
        cases b' <;> cases want <;> rfl
      · rename_i hl
        cases h
        obtain ⟨v, hv, hr⟩ := ht gs _ hl
        have hr : Rep E w ro ι v (.tup []) := hr
        obtain ⟨vs, rfl⟩ : ∃ vs, v = .tuple vs := by
          cases hr with
          | tup vs _ _ _ => exact ⟨vs, rfl⟩
        unfold dstOf at hgs
        simp only [Region.wanted, hg, yielded, hgs, Option.bind_some, hv]
        rfl
      · cases h
    · cases h
theorem wpListIn_want {F : Fence} {ops : Array Oper} {Q : Exit → Act → World → Prop} {o : Oper} {rest : List Oper} {a : Act} {w : World} (hF : ∀ f, F.fn f) {b : Bool} (hb : Region.wanted o (yielded ops a.tmps) = b)
    (h : if b = true then o.wpIn F nn P a w (wpListIn F nn P ops Q rest) Q else wpListIn F nn P ops Q rest (a.put o.dst undef) w) : wpListIn F nn P ops Q (o :: rest) a w := by
  subst hb
  unfold wpListIn
  split
  · rename_i hw; rw [if_pos hw] at h; exact h
  · rename_i hw; rw [if_neg hw] at h; exact ⟨fun f _ => hF f, h⟩
theorem yld_wpIn {l : Nat} {o : Oper} {cal : Operand} {xs : Array Operand} {ts : Array TypeId} (ho : o.op = .call { callee := .value cal, args := xs, argTypes := ts }) {fn : FuncId} {tmps : Array Value} {assign body : Code} {a : Act} {w : World} {Q : Exit → Act → World → Prop} {K : Act → World → Prop} (hc : a.eval cal = .func (.yield l) #[] #[])
    (hy : (Instr.yield l (xs.map a.eval)).run P w = .ok (.round l fn tmps assign body) w) (hr : RoundIn (Wd r) (nn - 1) P l fn tmps assign body w fun e w' => ∃ v, e = .returned v ∧ K (a.put o.dst v) w') : o.wpIn (Wd r) nn P a w K Q := by
  refine ⟨fun _ _ => trivial, ?_⟩
  have e : (o.semAt (Wd r).round a.eval).run P w = .ok (.round l fn tmps assign body) w := by
    rw [show o.semAt (Wd r).round a.eval = execOp a.eval o from Oper.semAt_eq r a.eval o (fun c hc => by rw [ho] at hc; cases hc)]
    simp only [execOp, ho, resolve, hc, Deferred.ofValue, Sem.run_bind, Sem.run_pure, Result.andThen_ok, invoke]
    simpa using hy
  rw [e]
  exact ⟨fun h => (by cases h), hr.mono fun e w' he => by obtain ⟨v, rfl, hk⟩ := he; exact hk⟩
theorem evOp_noDefer {S : ASt E} {asm : List (Nat × Bool)} {c : Call} : evOp O S asm (.defer c) = none := rfl
theorem evG_noDefer {ops : Array Oper} {S : ASt E} {o : Oper} {q : Res E} (h : evG O ops S (plainO o) = some q) : ∀ c, o.op ≠ .defer c := by
  intro c hc
  unfold evG at h
  simp only [plainO, hc, evOp_noDefer] at h
  cases h
theorem evSeqR_sound {R : Type} (hO : OracleOk E O) (hY : RndOk E Y) {ops : Array Oper} {k : ASt E → Option R} {rr : R} {Q : Exit → Act → World → Prop}
    (hk : ∀ S' a' w' ι' ro', NoCond S'.tmps → Gam E w0 ro0 S' a' w' ι' ro' → S'.n = n → k S' = some rr → Q .normal a' w') :
    ∀ (l : List Oper) (tm : List (Nat × AV E)) (objs : List (Nat × AObj E)) (next : Nat) (a : Act) (w : World) (ι : Nat → Option Gh) (ro : Nat → Nat → Prop), NoCond tm → Gam E w0 ro0 ⟨n, tm, objs, next⟩ a w ι ro → evSeqR O Y ops n l tm objs next k = some rr →
      wpListIn (Wd r) nn P ops Q l a w
  | [], tm, objs, next, a, w, ι, ro, hnc, hg, h => hk _ a w ι ro hnc hg rfl h
  | o :: rest, tm, objs, next, a, w, ι, ro, hnc, hg, h => by
    have ih := evSeqR_sound (ops := ops) hO hY hk rest
    unfold evSeqR at h
    split at h
    · rename_i hd hw
      refine wpListIn_want (fun _ => trivial) (wantR_sound hg.tmps hw) ?_
      exact ih _ _ _ _ _ _ _ (nc_putL hnc rfl) (hg.putR hnc hd rep_undef rfl) h
    · rename_i hd hw
      refine wpListIn_want (fun _ => trivial) (wantR_sound hg.tmps hw) ?_
      show o.wpIn (Wd r) nn P a w (wpListIn (Wd r) nn P ops Q rest) Q
      have c : Ctx E ⟨n, tm, objs, next⟩ [] a w ι ro := ⟨hg.tmps, fun j b hb => by simp [hasAsm] at hb, hg.base.rolt, hg.objs, hg.fresh _ (Nat.le_refl _)⟩
      split at h
      · rename_i id args hy
        unfold yldOf at hy
        split at hy
        · rename_i cc hop
          obtain ⟨callee, as_, ts⟩ := cc
          split at hy
          · rename_i x hx
            have hx : callee = .value x := hx
            subst hx
            split at hy
            · rename_i id' hid
              cases hy
              have hx := c.get x
              have hid : getA (⟨n, tm, objs, next⟩ : ASt E).tmps [] x = .yl id := hid
              rw [hid] at hx
              generalize hvx : a.eval x = vx at hx
              cases hx with
              | yl gh l _ hi hb =>
              obtain ⟨fn, tmps, assign, body, hrun, hround⟩ := hY _ _ _ _ _ _ h w0 ro0 a w ι ro (as_.toList.map a.eval) hg.base hg.objs hg.inj hg.fresh hg.ids (by simp [argsA]) (fun i v x hv hx => argsA_rep c as_ i v x (by simpa using hv) hx) gh l hi hb
              refine yld_wpIn hop hvx (by rw [show as_.map a.eval = (as_.toList.map a.eval).toArray by apply Array.ext'; simp]; exact hrun) ((hround r (nn - 1)).mono fun e w' he => ?_)
              obtain ⟨v, x, objs', next', ι', ro', rfl, hk', hv, hb', ho, hi', hf, hids, hkeep, hext⟩ := he
              refine ⟨v, rfl, ?_⟩
              split at hk'
              · cases hk'
              · rename_i hcx
                have := gam_in (loc := tm) (glob := []) (by rw [List.append_nil]; exact hg) (fun p hp => by cases hp) (dstOk_nc hnc hcx hd) hcx hv hb' ho hi' hf hids hkeep hext
                rw [List.append_nil] at this
                exact ih _ _ _ _ _ _ _ (nc_putL hnc hcx) this hk'
            · cases hy
          · cases hy
        · cases hy
      split at h
      · rename_i v hpk
        split at h
        · cases h
        · rename_i hcx
          unfold pickV at hpk
          split at hpk
          · rename_i x y z hop
            have hx := c.get x
            have hy := c.get y
            have hz := c.get z
            refine oper_in (fun c hc => by rw [hop] at hc; cases hc) ?_
            unfold Oper.wp
            split at hpk
            · rename_i hgx
              cases hpk
              have hgx : getA (⟨n, tm, objs, next⟩ : ASt E).tmps [] x = .d (.bool true) := hgx
              rw [hgx] at hx
              rw [show (execOp a.eval o).run P w = .ok (.value (a.eval y)) w by simp [execOp, hop, hx.bool_inv, asBool]]
              exact ih _ _ _ _ _ _ _ (nc_putL hnc hcx) (hg.putR hnc hd hy hcx) h
            · rename_i hgx
              cases hpk
              have hgx : getA (⟨n, tm, objs, next⟩ : ASt E).tmps [] x = .d (.bool false) := hgx
              rw [hgx] at hx
              rw [show (execOp a.eval o).run P w = .ok (.value (a.eval z)) w by simp [execOp, hop, hx.bool_inv, asBool]]
              exact ih _ _ _ _ _ _ _ (nc_putL hnc hcx) (hg.putR hnc hd hz hcx) h
            · cases hpk
          · cases hpk
      · split at h
        · rename_i f args hin
          obtain ⟨_, cal, as_, ts, vs, us, p, q, hop, hfo, rfl, hp1, hq1, hp2, hq2⟩ := inlOf_inv c hin
          have hop : o.op = _ := hop
          obtain ⟨hfn, hcalls⟩ := hO.2.2.2.2.1 _ _ _ _ _ _ h
          refine oper_in (fun c hc => by rw [hop] at hc; cases hc) ?_
          unfold Oper.wp
          rw [enter_fn hop hfo hfn]
          refine (hcalls w0 ro0 a w ι ro _ hg.base hg.objs hg.inj hg.fresh hg.ids (by simp [argsA, hp1, hq1]) fun i v x hv hx => ?_).mono fun e w' he => ?_
          · refine app_rep (by simpa using hp1) (fun j v c h1 h2 => hp2 j v c (by simpa using h1) h2) (app_rep (by simp [argsA]) (fun j v x h1 h2 => argsA_rep c as_ j v x (by simpa using h1) h2) fun j v c h1 h2 => hq2 j v c (by simpa using h1) h2) i v x hv hx
          · obtain ⟨v, x, objs', next', ι', ro', rfl, hk', hv, hb', ho, hi', hf, hids, hkeep, hext⟩ := he
            split at hk'
            · cases hk'
            · rename_i hcx
              have := gam_in (loc := tm) (glob := []) (by rw [List.append_nil]; exact hg) (fun p hp => by cases hp) (dstOk_nc hnc hcx hd) hcx hv hb' ho hi' hf hids hkeep hext
              rw [List.append_nil] at this
              exact ih _ _ _ _ _ _ _ (nc_putL hnc hcx) this hk'
        · split at h
          · rename_i q hq
            split at h
            · rename_i hok
              rw [stepK_eq] at h
              have hcx : isCond q.v = false := by
                have hq' := hq
                unfold evG at hq'
                exact (evG_plain hq').2
              refine oper_in (evG_noDefer hq) (plainO_wp ?_)
              have hsd := evG_sound (S := ⟨n, tm, objs, next⟩) (Q := Q) (K := fun a w => wpListIn (Wd r) nn P ops Q rest a w) hg.base.rolt hg.tmps hg.objs (hg.fresh _ (Nat.le_refl _)) hO hq hok fun val w' ι' ro' hp hslot => ?_
              · rw [if_pos (by simp [Region.wanted, plainO])] at hsd
                exact hsd
              · have := gam_step (loc := tm) (glob := []) (by rw [List.append_nil]; exact hg) (fun p hp => by cases hp) (dstOk_nc hnc hcx hd) (fun id o hu => evG_upd hq hu) hp hslot
                rw [List.append_nil] at this
                exact ih _ _ _ _ _ _ _ (nc_putL hnc hcx) this h
            · cases h
          · cases h
    · cases h
end
end
end Go.Proofs.YtoibjelpldfpfaaGreatDoor.Mir
