/- Part 10 of a proof: the texts S6, one behind the other. -/
import Derived.Test.YtoibjelpldfpfaaGreatDoorGz8
import Derived.Test.YtoibjelpldfpfaaGreatDoorGz9
namespace Go.Proofs.YtoibjelpldfpfaaGreatDoor.Rf
open Go Go.RowKit Go.Sort Go.Proofs.YtoibjelpldfpfaaGreatDoor.Mir
def wkey (xs : List (AV E)) : Bool := match xs with
  | [.d (.str s)] => Pl.eqB s blk0
  | _ => false
noncomputable def w0_cl (B : Oracle E) : Oracle E := withCl B 202 wkey wrd0
theorem w0_clok {B : Oracle E} (hB : OracleOk E B) : OracleOk E (w0_cl B) := withCl_ok hB ⟨Tryz.f202, by kernel_rfl, by kernel_rfl, by kernel_rfl⟩ fun xs h => by
  unfold wkey at h
  split at h
  · rw [Pl.eqB_iff, decide_eq_true_eq] at h
    subst h
    exact runC_ok swd_V_ok.1 swd_V_ok.2 mix (by kernel_rfl) words_0
  · cases h
noncomputable def c0_cl (B : Oracle E) : Oracle E := withCl B 158 (fun xs => xs.isEmpty) con0
theorem c0_clok {B : Oracle E} (hB : OracleOk E B) : OracleOk E (c0_cl B) := withCl_ok hB ⟨Tryz.f158, by kernel_rfl, by kernel_rfl, by kernel_rfl⟩ fun xs h => by
  have h : xs = [] := List.isEmpty_iff.1 h
  subst h
  exact runC_ok scn_V_ok.1 scn_V_ok.2 mix (by kernel_rfl) constants_0
def okPr (s : List UInt8) : Bool := Pl.eqB s tx0
def prV (_ : List UInt8) : List UInt8 := hx0
noncomputable def shex_m0 : Nat → List UInt8 → Nat → Int → Int → List Int → Option ((List UInt8))
  | 0, _, _, _, _, _ => none
  | f + 1, v0, _, v2, v3, v4 => bif (decide (v3 < v2)) then (bif (decide ((0 : Int) ≤ v3) && decide (v3 < (v0.length : Int))) then (bif (decide ((0 : Int) ≤ (4 : Int)) && decide ((4 : Int) ≤ (8 : Int))) then (bif (decide ((0 : Int) ≤ ((((List.getD v0 (Int.toNat v3) 0).toNat : Nat) : Int) / 2 ^ (Int.toNat (4 : Int)))) && decide (((((List.getD v0 (Int.toNat v3) 0).toNat : Nat) : Int) / 2 ^ (Int.toNat (4 : Int))) < (([48, 49, 50, 51, 52, 53, 54, 55, 56, 57, 97, 98, 99, 100, 101, 102] : List UInt8).length : Int))) then (bif (decide ((0 : Int) ≤ v3) && decide (v3 < (v0.length : Int))) then (bif (decide ((0 : Int) ≤ (bits .and .u8 (((List.getD v0 (Int.toNat v3) 0).toNat : Nat) : Int) (15 : Int))) && decide ((bits .and .u8 (((List.getD v0 (Int.toNat v3) 0).toNat : Nat) : Int) (15 : Int)) < (([48, 49, 50, 51, 52, 53, 54, 55, 56, 57, 97, 98, 99, 100, 101, 102] : List UInt8).length : Int))) then (bif (decide ((v4.length + ([(((List.getD ([48, 49, 50, 51, 52, 53, 54, 55, 56, 57, 97, 98, 99, 100, 101, 102] : List UInt8) (Int.toNat ((((List.getD v0 (Int.toNat v3) 0).toNat : Nat) : Int) / 2 ^ (Int.toNat (4 : Int)))) 0).toNat : Nat) : Int), (((List.getD ([48, 49, 50, 51, 52, 53, 54, 55, 56, 57, 97, 98, 99, 100, 101, 102] : List UInt8) (Int.toNat (bits .and .u8 (((List.getD v0 (Int.toNat v3) 0).toNat : Nat) : Int) (15 : Int))) 0).toNat : Nat) : Int)] : List Int).length) * 1 ≤ maxBytes)) then (shex_m0 f v0 (v4.length + ([(((List.getD ([48, 49, 50, 51, 52, 53, 54, 55, 56, 57, 97, 98, 99, 100, 101, 102] : List UInt8) (Int.toNat ((((List.getD v0 (Int.toNat v3) 0).toNat : Nat) : Int) / 2 ^ (Int.toNat (4 : Int)))) 0).toNat : Nat) : Int), (((List.getD ([48, 49, 50, 51, 52, 53, 54, 55, 56, 57, 97, 98, 99, 100, 101, 102] : List UInt8) (Int.toNat (bits .and .u8 (((List.getD v0 (Int.toNat v3) 0).toNat : Nat) : Int) (15 : Int))) 0).toNat : Nat) : Int)] : List Int).length) v2 (w64 (v3 + (1 : Int))) (v4 ++ ([(((List.getD ([48, 49, 50, 51, 52, 53, 54, 55, 56, 57, 97, 98, 99, 100, 101, 102] : List UInt8) (Int.toNat ((((List.getD v0 (Int.toNat v3) 0).toNat : Nat) : Int) / 2 ^ (Int.toNat (4 : Int)))) 0).toNat : Nat) : Int), (((List.getD ([48, 49, 50, 51, 52, 53, 54, 55, 56, 57, 97, 98, 99, 100, 101, 102] : List UInt8) (Int.toNat (bits .and .u8 (((List.getD v0 (Int.toNat v3) 0).toNat : Nat) : Int) (15 : Int))) 0).toNat : Nat) : Int)] : List Int))) else (none)) else (none)) else (none)) else (none)) else (none)) else (none)) else (some ((List.map (fun y => UInt8.ofNat (Int.toNat y)) v4)))
noncomputable def shex_m (x0 : List UInt8) : Option ((List UInt8)) := let y1 : Int := (x0.length : Int); bif (decide ((0 : Int) ≤ (0 : Int)) && decide ((0 : Int) ≤ (w64 ((2 : Int) * y1))) && decide ((w64 ((2 : Int) * y1)) * (1 : Int) ≤ maxBytes)) then (let y2 : Int := (x0.length : Int); shex_m0 1000000000 x0 (Int.toNat (0 : Int)) y2 (0 : Int) (List.replicate (Int.toNat (0 : Int)) (0 : Int))) else (none)
noncomputable def shex_k (x0 : List UInt8) : Bool := (shex_m x0).isSome
noncomputable def shex_r0 (x0 : List UInt8) : List UInt8 := ((shex_m x0).getD (dflt .str))
noncomputable def shex_W : FnW E := fn1 (E := E) .str .str shex_k shex_r0
def shex_id : FuncId := 112
noncomputable def shex_O : Oracle E := orac [] [] [] []
noncomputable def shex_H : Hint E := Hint.mk [(0, [0, 3, 10, 11])] [7] [] [] [] 5 []
noncomputable def shex_C0 (v0 : List UInt8) (v1 : Nat) (v2 v3 : Int) (v4 : List Int) : ASt E := ASt.mk 30 [(0, .d (.str v0)), (3, .row .byte v1 0), (10, .d (.int .i64 v2)), (11, .d (.int .i64 v3))] [(0, .row .byte v4)] 1
noncomputable def shex_t (G : Nat → ASt E → Option (List (TV E))) (x0 : List UInt8) : Option (List (TV E)) :=
  let y1 : Int := (x0.length : Int); bif (decide ((0 : Int) ≤ (0 : Int)) && decide ((0 : Int) ≤ (w64 ((2 : Int) * y1))) && decide ((w64 ((2 : Int) * y1)) * (1 : Int) ≤ maxBytes)) then (let y2 : Int := (x0.length : Int); G 0 (shex_C0 x0 (Int.toNat 0) y2 0 (List.replicate (Int.toNat 0) (0 : Int)))) else none
theorem shex_e (G : Nat → ASt E → Option (List (TV E))) (x0 : List UInt8) : runE shex_O shex_H G Tryz.f112 [⟨.str, x0⟩] = shex_t G x0 := by kernel_rfl
noncomputable def shex_t0 (G : Nat → ASt E → Option (List (TV E))) (v0 : List UInt8) (_v1 : Nat) (v2 v3 : Int) (v4 : List Int) : Option (List (TV E)) :=
  bif (decide (v3 < v2)) then (bif (decide ((0 : Int) ≤ v3) && decide (v3 < (v0.length : Int))) then (bif (decide ((0 : Int) ≤ (4 : Int)) && decide ((4 : Int) ≤ (8 : Int))) then (bif (decide ((0 : Int) ≤ ((((List.getD v0 (Int.toNat v3) 0).toNat : Nat) : Int) / 2 ^ (Int.toNat 4))) && decide (((((List.getD v0 (Int.toNat v3) 0).toNat : Nat) : Int) / 2 ^ (Int.toNat 4)) < (([48, 49, 50, 51, 52, 53, 54, 55, 56, 57, 97, 98, 99, 100, 101, 102] : List UInt8).length : Int))) then (bif (decide ((0 : Int) ≤ v3) && decide (v3 < (v0.length : Int))) then (bif (decide ((0 : Int) ≤ (bits .and .u8 (((List.getD v0 (Int.toNat v3) 0).toNat : Nat) : Int) 15)) && decide ((bits .and .u8 (((List.getD v0 (Int.toNat v3) 0).toNat : Nat) : Int) 15) < (([48, 49, 50, 51, 52, 53, 54, 55, 56, 57, 97, 98, 99, 100, 101, 102] : List UInt8).length : Int))) then (bif (decide ((v4.length + ([(((List.getD ([48, 49, 50, 51, 52, 53, 54, 55, 56, 57, 97, 98, 99, 100, 101, 102] : List UInt8) (Int.toNat ((((List.getD v0 (Int.toNat v3) 0).toNat : Nat) : Int) / 2 ^ (Int.toNat 4))) 0).toNat : Nat) : Int), (((List.getD ([48, 49, 50, 51, 52, 53, 54, 55, 56, 57, 97, 98, 99, 100, 101, 102] : List UInt8) (Int.toNat (bits .and .u8 (((List.getD v0 (Int.toNat v3) 0).toNat : Nat) : Int) 15)) 0).toNat : Nat) : Int)] : List Int).length) * 1 ≤ maxBytes)) then G 0 (shex_C0 v0 (v4.length + ([(((List.getD ([48, 49, 50, 51, 52, 53, 54, 55, 56, 57, 97, 98, 99, 100, 101, 102] : List UInt8) (Int.toNat ((((List.getD v0 (Int.toNat v3) 0).toNat : Nat) : Int) / 2 ^ (Int.toNat 4))) 0).toNat : Nat) : Int), (((List.getD ([48, 49, 50, 51, 52, 53, 54, 55, 56, 57, 97, 98, 99, 100, 101, 102] : List UInt8) (Int.toNat (bits .and .u8 (((List.getD v0 (Int.toNat v3) 0).toNat : Nat) : Int) 15)) 0).toNat : Nat) : Int)] : List Int).length) v2 (w64 (v3 + (1 : Int))) (v4 ++ ([(((List.getD ([48, 49, 50, 51, 52, 53, 54, 55, 56, 57, 97, 98, 99, 100, 101, 102] : List UInt8) (Int.toNat ((((List.getD v0 (Int.toNat v3) 0).toNat : Nat) : Int) / 2 ^ (Int.toNat 4))) 0).toNat : Nat) : Int), (((List.getD ([48, 49, 50, 51, 52, 53, 54, 55, 56, 57, 97, 98, 99, 100, 101, 102] : List UInt8) (Int.toNat (bits .and .u8 (((List.getD v0 (Int.toNat v3) 0).toNat : Nat) : Int) 15)) 0).toNat : Nat) : Int)] : List Int))) else none) else none) else none) else none) else none) else none) else some [⟨.str, (List.map (fun y => UInt8.ofNat (Int.toNat y)) v4)⟩]
theorem shex_l0 (G : Nat → ASt E → Option (List (TV E))) (v0 : List UInt8) (v1 : Nat) (v2 v3 : Int) (v4 : List Int) : runL shex_O shex_H G Tryz.f112 0 (shex_C0 v0 v1 v2 v3 v4) = shex_t0 G v0 v1 v2 v3 v4 := by kernel_rfl
theorem shex_f : Tryz.prog.funcs[112]? = some Tryz.f112 := by kernel_rfl
theorem shex_n : (Tryz.f112.name == "runtime.NumGoroutine") = false := by kernel_rfl
theorem shex_b : Tryz.f112.body.isNone = false := by kernel_rfl
theorem shex_hO : OracleOk E shex_O := orac_ok .nil .nil .nil .nil
theorem shex_s0 {res : List (TV E)} {v0 : List UInt8} {v1 : Nat} {v2 v3 : Int} {v4 : List Int} (h : shex_t0 (Gr E Tryz.f112 res) v0 v1 v2 v3 v4 = some res) : Ev E Tryz.f112 res 0 (shex_C0 v0 v1 v2 v3 v4) := Ev.step shex_hO mix ((shex_l0 _ v0 v1 v2 v3 v4).trans h)
theorem shex_ok_of (h : ∀ (x0 : List UInt8), shex_k x0 = true → shex_t (Gr E Tryz.f112 [⟨.str, shex_r0 x0⟩]) x0 = some [⟨.str, shex_r0 x0⟩]) : FnOk E shex_id shex_W := fn1_ok shex_hO mix shex_f shex_n shex_b (fun x0 hk => (shex_e _ x0).trans (h x0 hk))
theorem shex_v (f : Nat) : (∀ (v0 : List UInt8) (v1 : Nat) (v2 : Int) (v3 : Int) (v4 : List Int) (r : (List UInt8)), shex_m0 f v0 v1 v2 v3 v4 = some r → Ev E Tryz.f112 [⟨.str, r⟩] 0 (shex_C0 v0 v1 v2 v3 v4)) := by
  induction f with
  | zero => exact (fun _ _ _ _ _ _ h => by cases h)
  | succ f ih =>
    exact (fun v0 v1 v2 v3 v4 r h => shex_s0 (by unfold shex_m0 at h; unfold shex_t0; exact (bif2 h (fun h => (bif2 h (fun h => (bif2 h (fun h => (bif2 h (fun h => (bif2 h (fun h => (bif2 h (fun h => (bif2 h (fun h => (Gr_of (ih _ _ _ _ _ _ h))) fun h => (by cases h))) fun h => (by cases h))) fun h => (by cases h))) fun h => (by cases h))) fun h => (by cases h))) fun h => (by cases h))) fun h => (by have h := Option.some.inj h; subst h; exact rfl))))
theorem shex_ok : FnOk E shex_id shex_W := shex_ok_of fun x0 hk => by
  have h := some_of (d := (dflt .str)) hk
  unfold shex_t
  generalize hr : (shex_m x0).getD (dflt .str) = r at h
  rw [show shex_r0 x0 = r from hr];
  unfold shex_m at h
  exact (bif2 h (fun h => (Gr_of ((shex_v _) _ _ _ _ _ _ h))) fun h => (by cases h))
noncomputable def sprint_W : FnW E := fn1 (E := E) .str .str okPr prV
def sprint_id : FuncId := 85
noncomputable def sprint_tr : List (FuncId × Func) := [(113, Tryz.f113), (159, Tryz.f159)]
noncomputable def sprint_ti : List (FuncId × Func) := [(160, Tryz.f160)]
noncomputable def sprint_hs : List (FuncId × Hint E) := [(113, ({ rounds := 100, opn := [(18, [8])] } : Hint E)), (159, ({ rounds := 100, opn := [(9, [5])] } : Hint E)), (160, ({ rounds := 100 } : Hint E))]
noncomputable def sprint_B : Oracle E := (c0_cl (w0_cl (orac [(112, shex_W), (156, sprm_W), (157, sroot_W), (203, srnd_W), (201, srep_W)] [] [] [])))
theorem sprint_tr_ok : TblOk Tryz.prog sprint_tr := .cons Tryz.func113 (by kernel_rfl) (by kernel_rfl) <| .cons Tryz.func159 (by kernel_rfl) (by kernel_rfl) <| .nil
theorem sprint_ti_ok : TblOk Tryz.prog sprint_ti := .cons Tryz.func160 (by kernel_rfl) (by kernel_rfl) <| .nil
theorem sprint_B_ok : OracleOk E sprint_B := (c0_clok (w0_clok (orac_ok (.cons shex_ok (.cons sprm_ok (.cons sroot_ok (.cons srnd_ok (.cons srep_ok .nil))))) .nil .nil .nil)))
noncomputable def sprint_V : Oracle E × Rnd E := lev sprint_B sprint_tr sprint_ti sprint_hs { rounds := 100 } 8
theorem sprint_V_ok : OracleOk E sprint_V.1 ∧ RndOk E sprint_V.2 := lev_ok sprint_B_ok mix sprint_tr_ok sprint_ti_ok 8
theorem print_0 : Mir.runT sprint_V.1 sprint_V.2 { rounds := 100 } Tryz.f85 [⟨.str, tx0⟩] = some [⟨.str, hx0⟩] := by kernel_rfl
theorem sprint_ok : FnOk E sprint_id sprint_W := fn1_calls ⟨Tryz.f85, by kernel_rfl, by kernel_rfl, by kernel_rfl⟩ fun s hk => by
  unfold okPr at hk
  rw [Pl.eqB_iff, decide_eq_true_eq] at hk
  subst hk
  exact runT_ok sprint_V_ok.1 sprint_V_ok.2 mix (by kernel_rfl) print_0
end Go.Proofs.YtoibjelpldfpfaaGreatDoor.Rf
