/- The program's words. -/
import Derived.Test.YtfoflgciceckoaaGreatDoorT3
import Derived.Test.YtfoflgciceckoaaGreatDoorMirX
namespace Go.Proofs.YtfoflgciceckoaaGreatDoor.Rf
open Go Go.RowKit Go.Sort Go.Proofs.YtfoflgciceckoaaGreatDoor.Mir
/-! ### Package word: Split -/
noncomputable def wblank_W : FnW E := fn1 (E := E) .byte .bool (fun _ => true) (fun c => bif c == 32 then true else c == 9)
def wblank_id : FuncId := 119
noncomputable def wblank_O : Oracle E := orac [] [] [] []
noncomputable def wblank_H : Hint E := Hint.mk [] [] [] [] []
noncomputable def wblank_t (_G : Nat → ASt E → Option (List (TV E))) (x0 : Int) : Option (List (TV E)) :=
  some [⟨.bool, (bif (x0 == (32 : Int)) then true else (x0 == (9 : Int)))⟩]
theorem wblank_e (G : Nat → ASt E → Option (List (TV E))) (x0 : Int) : runE wblank_O wblank_H G Tryz.f119 [⟨.byte, x0⟩] = wblank_t G x0 := by kernel_rfl
theorem wblank_f : Tryz.prog.funcs[119]? = some Tryz.f119 := by kernel_rfl
theorem wblank_n : (Tryz.f119.name == "runtime.NumGoroutine") = false := by kernel_rfl
theorem wblank_b : Tryz.f119.body.isNone = false := by kernel_rfl
theorem wblank_ex : ∃ fn, Tryz.prog.funcs[119]? = some fn ∧ (fn.name == "runtime.NumGoroutine") = false ∧ fn.body.isNone = false := ⟨Tryz.f119, wblank_f, wblank_n, wblank_b⟩
theorem wblank_hO : OracleOk E wblank_O := orac_ok .nil .nil .nil .nil
theorem wblank_ok_of (h : ∀ (x0 : Int), wblank_t (Gr E Tryz.f119 [⟨.bool, (fun c => bif c == 32 then true else c == 9) x0⟩]) x0 = some [⟨.bool, (fun c => bif c == 32 then true else c == 9) x0⟩]) : FnOk E wblank_id wblank_W := fn1_ok wblank_hO mix wblank_f wblank_n wblank_b (fun x0 _ => (wblank_e _ x0).trans (h x0))
theorem wblank_ok : FnOk E wblank_id wblank_W := wblank_ok_of fun c => by
  simp only [wblank_t]
def okSx (s : List UInt8) (_ : Int) : Bool := decide (s.length ≤ 1000000)
def sxV (s : List UInt8) (c : Int) : Int := Lib.indexByte s c.toNat.toUInt8
noncomputable def sixb_W : FnW E := fn2 (E := E) .str .byte .int okSx sxV
def sixb_id : FuncId := 120
theorem sixb_ok : FnOk E sixb_id sixb_W := fn2_kit ⟨Tryz.f120, by kernel_rfl, by kernel_rfl, by kernel_rfl⟩ fun s p hk => by
  intro w ro vals hargs hrolt
  match vals, hargs with
  | [u, v], ⟨h1, h2, _⟩ =>
    have e1 : u = .string ⟨s.toArray⟩ := by
      rcases h1 with ⟨ha, _⟩ | ⟨_, d, hd, hr⟩
      · cases ha
      · have hd : ([.str s] : List (DVal E.Den)) = [d] := hd
        injection hd with hd _
        subst hd
        cases hr; rfl
    have e2 : v = .int .u8 p := by
      rcases h2 with ⟨ha, _⟩ | ⟨_, d, hd, hr⟩
      · cases ha
      · have hd : ([.int .u8 p] : List (DVal E.Den)) = [d] := hd
        injection hd with hd _
        subst hd
        cases hr; rfl
    subst e1; subst e2
    refine (Tryz.strings_IndexByte ⟨s.toArray⟩ p w).mono fun e w' he => ?_
    obtain ⟨he, rfl⟩ := he
    refine ⟨_, he, Below.refl _ _, .inr ⟨rfl, .int .i64 (sxV s p), rfl, ?_⟩⟩
    exact .int .i64 (sxV s p)
theorem ix_fiB (b : UInt8) : ∀ t : List UInt8, Lib.indexByte t b = if fiB ((b.toNat : Nat) : Int) t < t.length then (fiB ((b.toNat : Nat) : Int) t : Int) else -1
  | [] => rfl
  | c :: t => by
    have ih := ix_fiB b t
    have hl := fiB_le ((b.toNat : Nat) : Int) t
    unfold Lib.indexByte fiB
    by_cases h : c = b
    · subst h
      rw [eqT rfl, cond_true, if_pos (beq_self_eq_true _), if_pos (by simp)]
      rfl
    · have h1 : (c == b) = false := by simpa using h
      rw [eqF (show ((c.toNat : Nat) : Int) ≠ ((b.toNat : Nat) : Int) from fun e => h (UInt8.toNat_inj.1 (by omega))), cond_false, if_neg (by rw [h1]; decide), ih]
      by_cases h2 : fiB ((b.toNat : Nat) : Int) t < t.length
      · rw [if_pos h2, if_neg (by simp), if_pos (by simp only [List.length_cons]; omega)]
        try rfl
      · rw [if_neg h2, if_pos (by decide), if_neg (by simp only [List.length_cons]; omega)]
theorem sx39 (t : List UInt8) : sxV t 39 = if fiB 39 t < t.length then (fiB 39 t : Int) else -1 := ix_fiB 39 t
/-- A word's bytes as numbers. -/
def nm (w : List UInt8) : List Int := w.map fun b => ((b.toNat : Nat) : Int)
theorem nm_back (w : List UInt8) : List.map (fun y : Int => UInt8.ofNat (Int.toNat y)) (nm w) = w := by
  unfold nm
  rw [List.map_map]
  conv => rhs; rw [← List.map_id w]
  refine List.map_congr_left fun b _ => ?_
  show UInt8.ofNat (Int.toNat ((b.toNat : Nat) : Int)) = b
  rw [Int.toNat_natCast]
  exact UInt8.ofNat_toNat
theorem nm_len (w : List UInt8) : (nm w).length = w.length := by simp [nm]
theorem nm_app (w v : List UInt8) : nm w ++ nm v = nm (w ++ v) := by simp [nm]
theorem nm_map (w : List UInt8) : List.map (fun b : UInt8 => ((b.toNat : Nat) : Int)) w = nm w := rfl
theorem mbT {n : Nat} {i : Decidable (n ≤ maxBytes)} (h : n ≤ 140737488355328) : @decide (n ≤ maxBytes) i = true := decide_eq_true h
theorem nm_one (c : UInt8) : [((c.toNat : Nat) : Int)] = nm [c] := rfl
noncomputable def wsplit_W : FnW E := fn12 (E := E) .str .l_str .api_Errno okL1 splV splE
def wsplit_id : FuncId := 67
noncomputable def wsplit_O : Oracle E := orac [(119, wblank_W), (120, sixb_W)] [] [] []
noncomputable def wsplit_H : Hint E := Hint.mk [(100, [4, 5, 7]), (101, [0, 4, 5, 6, 7]), (102, [0, 4, 5, 6, 7]), (103, [0, 4, 5, 6, 7])] [] [(100, [(5, none, true, .byte), (4, none, true, .str)]), (101, [(5, none, true, .byte), (4, none, true, .str)]), (102, [(4, none, true, .str), (5, none, true, .byte)]), (103, [(4, none, true, .str), (5, none, true, .byte)])] [] []
noncomputable def wsplit_C100 (v0 : List (List UInt8)) (v1 : List Int) (v2 : Bool) : ASt E := ASt.mk 141 [(4, .grow .str v0 0), (5, .grow .byte v1 1), (7, .d (.bool v2))] [(0, .tail true), (1, .tail true)] 2
noncomputable def wsplit_C101 (v0 : List UInt8) (v1 : List (List UInt8)) (v2 : List Int) (v3 : Int) (v4 : Bool) : ASt E := ASt.mk 141 [(0, .d (.str v0)), (4, .grow .str v1 0), (5, .grow .byte v2 1), (6, .d (.int .i64 v3)), (7, .d (.bool v4))] [(0, .tail true), (1, .tail true)] 2
noncomputable def wsplit_C102 (v0 : List UInt8) (v1 : List (List UInt8)) (v2 : List Int) (v3 : Int) (v4 : Bool) : ASt E := ASt.mk 141 [(0, .d (.str v0)), (4, .grow .str v1 0), (5, .grow .byte v2 1), (6, .d (.int .i64 v3)), (7, .d (.bool v4))] [(0, .tail true), (1, .tail true)] 2
noncomputable def wsplit_C103 (v0 : List UInt8) (v1 : List (List UInt8)) (v2 : List Int) (v3 : Int) (v4 : Bool) : ASt E := ASt.mk 141 [(0, .d (.str v0)), (4, .grow .str v1 0), (5, .grow .byte v2 1), (6, .d (.int .i64 v3)), (7, .d (.bool v4))] [(0, .tail true), (1, .tail true)] 2
noncomputable def wsplit_t (G : Nat → ASt E → Option (List (TV E))) (x0 : List UInt8) : Option (List (TV E)) :=
  bif ((0 : Int) == (x0.length : Int)) then G 100 (wsplit_C100 ([] : List (List UInt8)) ([] : List Int) false) else (bif (decide ((0 : Int) ≤ (0 : Int)) && decide ((0 : Int) < (x0.length : Int))) then (bif ((fun c => bif c == 32 then true else c == 9) (((List.getD x0 (Int.toNat (0 : Int)) 0).toNat : Nat) : Int)) then G 101 (wsplit_C101 x0 ([] : List (List UInt8)) ([] : List Int) (1 : Int) false) else (bif (decide ((0 : Int) ≤ (0 : Int)) && decide ((0 : Int) < (x0.length : Int))) then (bif ((((List.getD x0 (Int.toNat (0 : Int)) 0).toNat : Nat) : Int) == (39 : Int)) then G 102 (wsplit_C102 x0 ([] : List (List UInt8)) ([] : List Int) (1 : Int) true) else (bif (decide ((0 : Int) ≤ (0 : Int)) && decide ((0 : Int) < (x0.length : Int))) then (bif ((((List.getD x0 (Int.toNat (0 : Int)) 0).toNat : Nat) : Int) == (34 : Int)) then G 103 (wsplit_C103 x0 ([] : List (List UInt8)) ([] : List Int) (1 : Int) true) else (bif (decide ((0 : Int) ≤ (0 : Int)) && decide ((0 : Int) < (x0.length : Int))) then (bif ((((List.getD x0 (Int.toNat (0 : Int)) 0).toNat : Nat) : Int) == (92 : Int)) then (bif ((1 : Int) == (x0.length : Int)) then some [⟨.l_str, ([] : List (List UInt8))⟩, ⟨.api_Errno, (3 : Int)⟩] else (bif (decide ((0 : Int) ≤ (1 : Int)) && decide ((1 : Int) < (x0.length : Int))) then (bif (decide (([(((List.getD x0 (Int.toNat (1 : Int)) 0).toNat : Nat) : Int)] : List Int).length * 1 ≤ maxBytes)) then G 101 (wsplit_C101 x0 ([] : List (List UInt8)) ([(((List.getD x0 (Int.toNat (1 : Int)) 0).toNat : Nat) : Int)] : List Int) (2 : Int) true) else none) else none)) else (bif (decide ((0 : Int) ≤ (0 : Int)) && decide ((0 : Int) < (x0.length : Int))) then (bif (decide (([(((List.getD x0 (Int.toNat (0 : Int)) 0).toNat : Nat) : Int)] : List Int).length * 1 ≤ maxBytes)) then G 101 (wsplit_C101 x0 ([] : List (List UInt8)) ([(((List.getD x0 (Int.toNat (0 : Int)) 0).toNat : Nat) : Int)] : List Int) (1 : Int) true) else none) else none)) else none)) else none)) else none)) else none)
theorem wsplit_e (G : Nat → ASt E → Option (List (TV E))) (x0 : List UInt8) : runE wsplit_O wsplit_H G Tryz.f67 [⟨.str, x0⟩] = wsplit_t G x0 := by kernel_rfl
noncomputable def wsplit_t100 (_G : Nat → ASt E → Option (List (TV E))) (v0 : List (List UInt8)) (v1 : List Int) (v2 : Bool) : Option (List (TV E)) :=
  bif v2 then (bif (decide ((v0.length + ([(List.map (fun y => UInt8.ofNat (Int.toNat y)) v1)] : List (List UInt8)).length) * 16 ≤ maxBytes)) then (bif (decide ((32 : Int) < ((v0 ++ ([(List.map (fun y => UInt8.ofNat (Int.toNat y)) v1)] : List (List UInt8))).length : Int))) then some [⟨.l_str, ([] : List (List UInt8))⟩, ⟨.api_Errno, (9 : Int)⟩] else some [⟨.l_str, (v0 ++ ([(List.map (fun y => UInt8.ofNat (Int.toNat y)) v1)] : List (List UInt8)))⟩, ⟨.api_Errno, (0 : Int)⟩]) else none) else (bif (decide ((32 : Int) < (v0.length : Int))) then some [⟨.l_str, ([] : List (List UInt8))⟩, ⟨.api_Errno, (9 : Int)⟩] else some [⟨.l_str, v0⟩, ⟨.api_Errno, (0 : Int)⟩])
theorem wsplit_l100 (G : Nat → ASt E → Option (List (TV E))) (v0 : List (List UInt8)) (v1 : List Int) (v2 : Bool) : runL wsplit_O wsplit_H G Tryz.f67 100 (wsplit_C100 v0 v1 v2) = wsplit_t100 G v0 v1 v2 := by kernel_rfl
noncomputable def wsplit_t101 (G : Nat → ASt E → Option (List (TV E))) (v0 : List UInt8) (v1 : List (List UInt8)) (v2 : List Int) (v3 : Int) (v4 : Bool) : Option (List (TV E)) :=
  bif (v3 == (v0.length : Int)) then G 100 (wsplit_C100 v1 v2 v4) else (bif (decide ((0 : Int) ≤ v3) && decide (v3 < (v0.length : Int))) then (bif ((fun c => bif c == 32 then true else c == 9) (((List.getD v0 (Int.toNat v3) 0).toNat : Nat) : Int)) then (bif v4 then (bif (decide ((v1.length + ([(List.map (fun y => UInt8.ofNat (Int.toNat y)) v2)] : List (List UInt8)).length) * 16 ≤ maxBytes)) then G 101 (wsplit_C101 v0 (v1 ++ ([(List.map (fun y => UInt8.ofNat (Int.toNat y)) v2)] : List (List UInt8))) ([] : List Int) (w64 (v3 + (1 : Int))) false) else none) else G 101 (wsplit_C101 v0 v1 v2 (w64 (v3 + (1 : Int))) v4)) else (bif (decide ((0 : Int) ≤ v3) && decide (v3 < (v0.length : Int))) then (bif ((((List.getD v0 (Int.toNat v3) 0).toNat : Nat) : Int) == (39 : Int)) then G 102 (wsplit_C102 v0 v1 v2 (w64 (v3 + (1 : Int))) true) else (bif (decide ((0 : Int) ≤ v3) && decide (v3 < (v0.length : Int))) then (bif ((((List.getD v0 (Int.toNat v3) 0).toNat : Nat) : Int) == (34 : Int)) then G 103 (wsplit_C103 v0 v1 v2 (w64 (v3 + (1 : Int))) true) else (bif (decide ((0 : Int) ≤ v3) && decide (v3 < (v0.length : Int))) then (bif ((((List.getD v0 (Int.toNat v3) 0).toNat : Nat) : Int) == (92 : Int)) then (bif ((w64 (v3 + (1 : Int))) == (v0.length : Int)) then some [⟨.l_str, ([] : List (List UInt8))⟩, ⟨.api_Errno, (3 : Int)⟩] else (bif (decide ((0 : Int) ≤ (w64 (v3 + (1 : Int)))) && decide ((w64 (v3 + (1 : Int))) < (v0.length : Int))) then (bif (decide ((v2.length + ([(((List.getD v0 (Int.toNat (w64 (v3 + (1 : Int)))) 0).toNat : Nat) : Int)] : List Int).length) * 1 ≤ maxBytes)) then G 101 (wsplit_C101 v0 v1 (v2 ++ ([(((List.getD v0 (Int.toNat (w64 (v3 + (1 : Int)))) 0).toNat : Nat) : Int)] : List Int)) (w64 ((w64 (v3 + (1 : Int))) + (1 : Int))) true) else none) else none)) else (bif (decide ((0 : Int) ≤ v3) && decide (v3 < (v0.length : Int))) then (bif (decide ((v2.length + ([(((List.getD v0 (Int.toNat v3) 0).toNat : Nat) : Int)] : List Int).length) * 1 ≤ maxBytes)) then G 101 (wsplit_C101 v0 v1 (v2 ++ ([(((List.getD v0 (Int.toNat v3) 0).toNat : Nat) : Int)] : List Int)) (w64 (v3 + (1 : Int))) true) else none) else none)) else none)) else none)) else none)) else none)
theorem wsplit_l101 (G : Nat → ASt E → Option (List (TV E))) (v0 : List UInt8) (v1 : List (List UInt8)) (v2 : List Int) (v3 : Int) (v4 : Bool) : runL wsplit_O wsplit_H G Tryz.f67 101 (wsplit_C101 v0 v1 v2 v3 v4) = wsplit_t101 G v0 v1 v2 v3 v4 := by kernel_rfl
noncomputable def wsplit_t102 (G : Nat → ASt E → Option (List (TV E))) (v0 : List UInt8) (v1 : List (List UInt8)) (v2 : List Int) (v3 : Int) (v4 : Bool) : Option (List (TV E)) :=
  bif (decide ((0 : Int) ≤ v3) && decide (v3 ≤ (v0.length : Int)) && decide ((v0.length : Int) ≤ (v0.length : Int))) then (bif (okSx (List.take (Int.toNat (v0.length : Int) - Int.toNat v3) (List.drop (Int.toNat v3) v0)) (39 : Int)) then (bif (decide ((0 : Int) ≤ (sxV (List.take (Int.toNat (v0.length : Int) - Int.toNat v3) (List.drop (Int.toNat v3) v0)) (39 : Int)))) then (bif (decide ((0 : Int) ≤ v3) && decide (v3 ≤ (w64 (v3 + (sxV (List.take (Int.toNat (v0.length : Int) - Int.toNat v3) (List.drop (Int.toNat v3) v0)) (39 : Int))))) && decide ((w64 (v3 + (sxV (List.take (Int.toNat (v0.length : Int) - Int.toNat v3) (List.drop (Int.toNat v3) v0)) (39 : Int)))) ≤ (v0.length : Int))) then (bif (decide ((v2.length + (List.map (fun b : UInt8 => ((b.toNat : Nat) : Int)) (List.take (Int.toNat (w64 (v3 + (sxV (List.take (Int.toNat (v0.length : Int) - Int.toNat v3) (List.drop (Int.toNat v3) v0)) (39 : Int)))) - Int.toNat v3) (List.drop (Int.toNat v3) v0))).length) * 1 ≤ maxBytes)) then G 101 (wsplit_C101 v0 v1 (v2 ++ (List.map (fun b : UInt8 => ((b.toNat : Nat) : Int)) (List.take (Int.toNat (w64 (v3 + (sxV (List.take (Int.toNat (v0.length : Int) - Int.toNat v3) (List.drop (Int.toNat v3) v0)) (39 : Int)))) - Int.toNat v3) (List.drop (Int.toNat v3) v0)))) (w64 (v3 + (w64 ((sxV (List.take (Int.toNat (v0.length : Int) - Int.toNat v3) (List.drop (Int.toNat v3) v0)) (39 : Int)) + (1 : Int))))) v4) else none) else none) else some [⟨.l_str, ([] : List (List UInt8))⟩, ⟨.api_Errno, (3 : Int)⟩]) else none) else none
theorem wsplit_l102 (G : Nat → ASt E → Option (List (TV E))) (v0 : List UInt8) (v1 : List (List UInt8)) (v2 : List Int) (v3 : Int) (v4 : Bool) : runL wsplit_O wsplit_H G Tryz.f67 102 (wsplit_C102 v0 v1 v2 v3 v4) = wsplit_t102 G v0 v1 v2 v3 v4 := by kernel_rfl
noncomputable def wsplit_t103 (G : Nat → ASt E → Option (List (TV E))) (v0 : List UInt8) (v1 : List (List UInt8)) (v2 : List Int) (v3 : Int) (v4 : Bool) : Option (List (TV E)) :=
  bif ((decide ((0 : Int) ≤ v3) && decide (v3 < (v0.length : Int))) || !((!(v3 == (v0.length : Int))) && ((w64 (v3 + (1 : Int))) == (v0.length : Int)))) then (bif (bif (v3 == (v0.length : Int)) then true else (bif ((w64 (v3 + (1 : Int))) == (v0.length : Int)) then ((((List.getD v0 (Int.toNat v3) 0).toNat : Nat) : Int) == (92 : Int)) else false)) then some [⟨.l_str, ([] : List (List UInt8))⟩, ⟨.api_Errno, (3 : Int)⟩] else (bif (decide ((0 : Int) ≤ v3) && decide (v3 < (v0.length : Int))) then (bif ((((List.getD v0 (Int.toNat v3) 0).toNat : Nat) : Int) == (34 : Int)) then G 101 (wsplit_C101 v0 v1 v2 (w64 (v3 + (1 : Int))) v4) else (bif (decide ((0 : Int) ≤ v3) && decide (v3 < (v0.length : Int))) then (bif ((((List.getD v0 (Int.toNat v3) 0).toNat : Nat) : Int) == (92 : Int)) then (bif (decide ((0 : Int) ≤ (w64 (v3 + (1 : Int)))) && decide ((w64 (v3 + (1 : Int))) < (v0.length : Int))) then (bif ((decide ((0 : Int) ≤ (w64 (v3 + (1 : Int)))) && decide ((w64 (v3 + (1 : Int))) < (v0.length : Int))) || !((((List.getD v0 (Int.toNat (w64 (v3 + (1 : Int)))) 0).toNat : Nat) : Int) != (34 : Int))) then (bif (bif ((((List.getD v0 (Int.toNat (w64 (v3 + (1 : Int)))) 0).toNat : Nat) : Int) != (34 : Int)) then ((((List.getD v0 (Int.toNat (w64 (v3 + (1 : Int)))) 0).toNat : Nat) : Int) != (92 : Int)) else false) then (bif (decide ((v2.length + ([(92 : Int)] : List Int).length) * 1 ≤ maxBytes)) then (bif (decide ((0 : Int) ≤ (w64 (v3 + (1 : Int)))) && decide ((w64 (v3 + (1 : Int))) < (v0.length : Int))) then (bif (decide (((v2 ++ ([(92 : Int)] : List Int)).length + ([(((List.getD v0 (Int.toNat (w64 (v3 + (1 : Int)))) 0).toNat : Nat) : Int)] : List Int).length) * 1 ≤ maxBytes)) then G 103 (wsplit_C103 v0 v1 ((v2 ++ ([(92 : Int)] : List Int)) ++ ([(((List.getD v0 (Int.toNat (w64 (v3 + (1 : Int)))) 0).toNat : Nat) : Int)] : List Int)) (w64 ((w64 (v3 + (1 : Int))) + (1 : Int))) v4) else none) else none) else none) else (bif (decide ((0 : Int) ≤ (w64 (v3 + (1 : Int)))) && decide ((w64 (v3 + (1 : Int))) < (v0.length : Int))) then (bif (decide ((v2.length + ([(((List.getD v0 (Int.toNat (w64 (v3 + (1 : Int)))) 0).toNat : Nat) : Int)] : List Int).length) * 1 ≤ maxBytes)) then G 103 (wsplit_C103 v0 v1 (v2 ++ ([(((List.getD v0 (Int.toNat (w64 (v3 + (1 : Int)))) 0).toNat : Nat) : Int)] : List Int)) (w64 ((w64 (v3 + (1 : Int))) + (1 : Int))) v4) else none) else none)) else none) else none) else (bif (decide ((0 : Int) ≤ v3) && decide (v3 < (v0.length : Int))) then (bif (decide ((v2.length + ([(((List.getD v0 (Int.toNat v3) 0).toNat : Nat) : Int)] : List Int).length) * 1 ≤ maxBytes)) then G 103 (wsplit_C103 v0 v1 (v2 ++ ([(((List.getD v0 (Int.toNat v3) 0).toNat : Nat) : Int)] : List Int)) (w64 (v3 + (1 : Int))) v4) else none) else none)) else none)) else none)) else none
theorem wsplit_l103 (G : Nat → ASt E → Option (List (TV E))) (v0 : List UInt8) (v1 : List (List UInt8)) (v2 : List Int) (v3 : Int) (v4 : Bool) : runL wsplit_O wsplit_H G Tryz.f67 103 (wsplit_C103 v0 v1 v2 v3 v4) = wsplit_t103 G v0 v1 v2 v3 v4 := by kernel_rfl
theorem wsplit_f : Tryz.prog.funcs[67]? = some Tryz.f67 := by kernel_rfl
theorem wsplit_n : (Tryz.f67.name == "runtime.NumGoroutine") = false := by kernel_rfl
theorem wsplit_b : Tryz.f67.body.isNone = false := by kernel_rfl
theorem wsplit_ex : ∃ fn, Tryz.prog.funcs[67]? = some fn ∧ (fn.name == "runtime.NumGoroutine") = false ∧ fn.body.isNone = false := ⟨Tryz.f67, wsplit_f, wsplit_n, wsplit_b⟩
theorem wsplit_hO : OracleOk E wsplit_O := orac_ok (.cons wblank_ok (.cons sixb_ok .nil)) .nil .nil .nil
theorem wsplit_s100 {res : List (TV E)} {v0 : List (List UInt8)} {v1 : List Int} {v2 : Bool} (h : wsplit_t100 (Gr E Tryz.f67 res) v0 v1 v2 = some res) : Ev E Tryz.f67 res 100 (wsplit_C100 v0 v1 v2) := Ev.step wsplit_hO mix ((wsplit_l100 _ v0 v1 v2).trans h)
theorem wsplit_s101 {res : List (TV E)} {v0 : List UInt8} {v1 : List (List UInt8)} {v2 : List Int} {v3 : Int} {v4 : Bool} (h : wsplit_t101 (Gr E Tryz.f67 res) v0 v1 v2 v3 v4 = some res) : Ev E Tryz.f67 res 101 (wsplit_C101 v0 v1 v2 v3 v4) := Ev.step wsplit_hO mix ((wsplit_l101 _ v0 v1 v2 v3 v4).trans h)
theorem wsplit_s102 {res : List (TV E)} {v0 : List UInt8} {v1 : List (List UInt8)} {v2 : List Int} {v3 : Int} {v4 : Bool} (h : wsplit_t102 (Gr E Tryz.f67 res) v0 v1 v2 v3 v4 = some res) : Ev E Tryz.f67 res 102 (wsplit_C102 v0 v1 v2 v3 v4) := Ev.step wsplit_hO mix ((wsplit_l102 _ v0 v1 v2 v3 v4).trans h)
theorem wsplit_s103 {res : List (TV E)} {v0 : List UInt8} {v1 : List (List UInt8)} {v2 : List Int} {v3 : Int} {v4 : Bool} (h : wsplit_t103 (Gr E Tryz.f67 res) v0 v1 v2 v3 v4 = some res) : Ev E Tryz.f67 res 103 (wsplit_C103 v0 v1 v2 v3 v4) := Ev.step wsplit_hO mix ((wsplit_l103 _ v0 v1 v2 v3 v4).trans h)
theorem wsplit_ok_of (h : ∀ (x0 : List UInt8), okL1 x0 = true → wsplit_t (Gr E Tryz.f67 [⟨.l_str, splV x0⟩, ⟨.api_Errno, splE x0⟩]) x0 = some [⟨.l_str, splV x0⟩, ⟨.api_Errno, splE x0⟩]) : FnOk E wsplit_id wsplit_W := fn12_ok wsplit_hO mix wsplit_f wsplit_n wsplit_b (fun x0 hk => (wsplit_e _ x0).trans (h x0 hk))
abbrev wsRs (o : Option (List (List UInt8))) : List (TV E) := [⟨.l_str, finV o⟩, ⟨.api_Errno, finE o⟩]
abbrev wsG (o : Option (List (List UInt8))) (j : Nat) (S : ASt E) : Prop := Ev E Tryz.f67 [⟨.l_str, finV o⟩, ⟨.api_Errno, finE o⟩] j S
theorem wsplit_100 (out : List (List UInt8)) (w : List UInt8) (b : Bool) (ho : out.length ≤ 2000000) : wsG (some (bif b then out ++ [w] else out)) 100 (wsplit_C100 out (nm w) b) := by
  refine wsplit_s100 ?_
  simp only [wsplit_t100, nm_back]
  cases b with
  | true =>
    rw [dT (show (out.length + [w].length) * 16 ≤ maxBytes by rw [mb, List.length_singleton]; omega)]
    simp only [cond_true, finV, finE]
    cases decide ((32 : Int) < ((out ++ [w]).length : Int)) <;> rfl
  | false =>
    simp only [cond_false, finV, finE]
    cases decide ((32 : Int) < (out.length : Int)) <;> rfl
theorem wsplit_103 (s : List UInt8) (hs : s.length ≤ 1000000) (out : List (List UInt8)) (b : Bool) (res : Option (List (List UInt8))) : ∀ (m a : Nat) (w : List UInt8), s.length - a ≤ m → a ≤ s.length → w.length ≤ a →
    (match dblV (s.drop a) with
      | none => res = none
      | some q => wsG res 101 (wsplit_C101 s out (nm (w ++ q.1)) ((a + q.2 : Nat) : Int) b)) → wsG res 103 (wsplit_C103 s out (nm w) a b) := by
  intro m
  induction m with
  | zero =>
    intro a w h1 h3 h4 hK
    rw [List.drop_eq_nil_of_le (show s.length ≤ a by omega)] at hK
    obtain rfl : res = none := hK
    refine wsplit_s103 ?_
    simp only [wsplit_t103, eqT (show (a : Int) = (s.length : Int) by omega), Bool.not_true, Bool.false_and, Bool.not_false, Bool.or_true, cond_true]
    rfl
  | succ m ih =>
    intro a w h1 h3 h4 hK
    by_cases hi : a < s.length
    · have e1 : w64 ((a : Int) + 1) = ((a + 1 : Nat) : Int) := by rw [w64_id (by omega) (by omega)]; omega
      have e2 : w64 (((a + 1 : Nat) : Int) + 1) = ((a + 2 : Nat) : Int) := by rw [w64_id (by omega) (by omega)]; omega
      refine wsplit_s103 ?_
      simp only [wsplit_t103, dlt hi, d0, eqF (show (a : Int) ≠ (s.length : Int) by omega), Bool.and_self, Bool.true_or, cond_true, cond_false, e1, e2, Int.toNat_natCast]
      by_cases hl : a + 1 < s.length
      · rw [drop_at hi, drop_at hl, dblV, ← drop_at hl] at hK
        simp only [eqF (show ((a + 1 : Nat) : Int) ≠ (s.length : Int) by omega), cond_false]
        cases h34 : ((List.getD s a 0).toNat : Int) == 34 with
        | true =>
          rw [h34] at hK
          simp only [cond_true, List.append_nil] at hK ⊢
          exact Gr_of hK
        | false =>
          rw [h34] at hK
          simp only [cond_false] at hK ⊢
          cases h92 : ((List.getD s a 0).toNat : Int) == 92 with
          | false =>
            rw [h92] at hK
            simp only [cond_false] at hK ⊢
            rw [mbT (show ((nm w).length + [(((s.getD a 0).toNat : Nat) : Int)].length) * 1 ≤ 140737488355328 by rw [nm_len, List.length_singleton]; omega), nm_one, nm_app, cond_true]
            refine Gr_of (ih (a + 1) _ (by omega) (by omega) (by rw [List.length_append, List.length_singleton]; omega) ?_)
            cases hd : dblV (s.drop (a + 1)) with
            | none => rw [hd] at hK; exact hK
            | some q =>
              rw [hd] at hK
              simp only [Option.map_some, List.append_assoc, List.singleton_append] at hK ⊢
              rw [show a + 1 + q.2 = a + (q.2 + 1) by omega]
              exact hK
          | true =>
            have h92' : s.getD a 0 = 92 := UInt8.toNat_inj.1 (by show (s.getD a 0).toNat = 92; have := eq_of_beq h92; omega)
            rw [h92] at hK
            simp only [cond_true, dlt hl, Bool.true_or] at hK ⊢
            have e92 : ([(92 : Int)] : List Int) = nm [92] := rfl
            rw [mbT (show ((nm w).length + [(92 : Int)].length) * 1 ≤ 140737488355328 by rw [nm_len, List.length_singleton]; omega), mbT (show ((nm w ++ [(92 : Int)]).length + [(((s.getD (a + 1) 0).toNat : Nat) : Int)].length) * 1 ≤ 140737488355328 by rw [List.length_append, nm_len, List.length_singleton, List.length_singleton]; omega),
              mbT (show ((nm w).length + [(((s.getD (a + 1) 0).toNat : Nat) : Int)].length) * 1 ≤ 140737488355328 by rw [nm_len, List.length_singleton]; omega), nm_one, e92, nm_app, nm_app, nm_app]
            simp only [cond_true]
            have fin : ∀ c : Bool, (match (dblV (s.drop (a + 1 + 1))).map fun q => ((bif c then [s.getD a 0] else []) ++ s.getD (a + 1) 0 :: q.1, q.2 + 2) with
                | none => res = none
                | some q => wsG res 101 (wsplit_C101 s out (nm (w ++ q.1)) ((a + q.2 : Nat) : Int) b)) → wsG res 103 (wsplit_C103 s out (nm (bif c then w ++ [92] ++ [s.getD (a + 1) 0] else w ++ [s.getD (a + 1) 0])) ((a + 2 : Nat) : Int) b) := by
              intro c hK
              refine ih (a + 2) _ (by omega) (by omega) (by cases c <;> simp only [cond_true, cond_false, List.length_append, List.length_singleton] <;> omega) ?_
              cases hd : dblV (s.drop (a + 1 + 1)) with
              | none => rw [hd] at hK; exact hK
              | some q =>
                rw [hd] at hK
                simp only [Option.map_some] at hK ⊢
                rw [show a + 2 + q.2 = a + (q.2 + 2) by omega]
                rw [h92'] at hK
                cases c <;> simpa only [cond_true, cond_false, List.append_assoc, List.singleton_append, List.nil_append, List.cons_append] using hK
            cases hc : (bif ((List.getD s (a + 1) 0).toNat : Int) != 34 then ((List.getD s (a + 1) 0).toNat : Int) != 92 else false) with
            | true => rw [hc] at hK; exact Gr_of (fin true hK)
            | false => rw [hc] at hK; exact Gr_of (fin false hK)
      · rw [drop_at hi, List.drop_eq_nil_of_le (show s.length ≤ a + 1 by omega), dblV] at hK
        simp only [eqT (show ((a + 1 : Nat) : Int) = (s.length : Int) by omega), cond_true]
        cases h34 : ((List.getD s a 0).toNat : Int) == 34 with
        | true =>
          rw [h34] at hK
          have h92 : (((List.getD s a 0).toNat : Int) == 92) = false := eqF (by have := eq_of_beq h34; omega)
          simp only [h92, cond_true, cond_false, List.append_nil] at hK ⊢
          exact Gr_of hK
        | false =>
          rw [h34] at hK
          obtain rfl : res = none := hK
          cases h92 : ((List.getD s a 0).toNat : Int) == 92 with
          | true => rfl
          | false =>
            simp only [cond_false]
            rw [mbT (show ((nm w).length + [(((s.getD a 0).toNat : Nat) : Int)].length) * 1 ≤ 140737488355328 by rw [nm_len, List.length_singleton]; omega), nm_one, nm_app, cond_true]
            refine Gr_of (ih (a + 1) _ (by omega) (by omega) (by rw [List.length_append, List.length_singleton]; omega) ?_)
            rw [List.drop_eq_nil_of_le (show s.length ≤ a + 1 by omega)]
            rfl
    · rw [List.drop_eq_nil_of_le (show s.length ≤ a by omega)] at hK
      obtain rfl : res = none := hK
      refine wsplit_s103 ?_
      simp only [wsplit_t103, eqT (show (a : Int) = (s.length : Int) by omega), Bool.not_true, Bool.false_and, Bool.not_false, Bool.or_true, cond_true]
      rfl
theorem wsplit_102 (s : List UInt8) (hs : s.length ≤ 1000000) (out : List (List UInt8)) (b : Bool) (res : Option (List (List UInt8))) (a : Nat) (w : List UInt8) (h3 : a ≤ s.length) (h4 : w.length ≤ a)
    (hK : match (bif decide (fiB 39 (s.drop a) < (s.drop a).length) then some ((s.drop a).take (fiB 39 (s.drop a)), fiB 39 (s.drop a) + 1) else none : Option (List UInt8 × Nat)) with
      | none => res = none
      | some q => wsG res 101 (wsplit_C101 s out (nm (w ++ q.1)) ((a + q.2 : Nat) : Int) b)) : wsG res 102 (wsplit_C102 s out (nm w) a b) := by
  refine wsplit_s102 ?_
  have ht : List.take (s.length - a) (List.drop a s) = s.drop a := List.take_of_length_le (by rw [List.length_drop]; exact Nat.le_refl _)
  simp only [wsplit_t102, d0, dle h3, dle (Nat.le_refl s.length), Bool.and_self, cond_true, Int.toNat_natCast, ht]
  have hok : okSx (s.drop a) 39 = true := decide_eq_true (by rw [List.length_drop]; omega)
  rw [hok, cond_true, sx39]
  by_cases hf : fiB 39 (s.drop a) < (s.drop a).length
  · rw [dT hf] at hK
    rw [if_pos hf]
    have hf' := hf
    rw [List.length_drop] at hf'
    have e1 : w64 ((a : Int) + (fiB 39 (s.drop a) : Int)) = ((a + fiB 39 (s.drop a) : Nat) : Int) := by rw [w64_id (by omega) (by omega)]; omega
    have e2 : w64 ((fiB 39 (s.drop a) : Int) + 1) = ((fiB 39 (s.drop a) + 1 : Nat) : Int) := by rw [w64_id (by omega) (by omega)]; omega
    have e3 : w64 ((a : Int) + ((fiB 39 (s.drop a) + 1 : Nat) : Int)) = ((a + (fiB 39 (s.drop a) + 1) : Nat) : Int) := by rw [w64_id (by omega) (by omega)]; omega
    have e4 : a + fiB 39 (s.drop a) - a = fiB 39 (s.drop a) := by omega
    simp only [d0, e1, e2, e3, cond_true, Bool.true_and, dle (show a ≤ a + fiB 39 (s.drop a) by omega), dle (show a + fiB 39 (s.drop a) ≤ s.length by omega), Int.toNat_natCast, e4, nm_map] at hK ⊢
    rw [mbT (show ((nm w).length + (nm ((s.drop a).take (fiB 39 (s.drop a)))).length) * 1 ≤ 140737488355328 by rw [nm_len, nm_len, List.length_take]; omega), nm_app, cond_true]
    exact Gr_of hK
  · rw [dF hf] at hK
    obtain rfl : res = none := hK
    rw [if_neg hf]
    rfl
theorem wsplit_101 (s : List UInt8) (hs : s.length ≤ 1000000) : ∀ (n i : Nat), s.length - i < n → i ≤ s.length → ∀ (out : List (List UInt8)) (w : List UInt8) (b : Bool), out.length ≤ i → w.length ≤ i →
    wsplit_t101 (Gr E Tryz.f67 (wsRs (bareA n (s.drop i) w b out))) s out (nm w) i b = some (wsRs (bareA n (s.drop i) w b out)) := by
  intro n
  induction n with
  | zero => intro i h1 h2; omega
  | succ n ih0 =>
    have ih : ∀ (i : Nat), s.length - i < n → i ≤ s.length → ∀ (out : List (List UInt8)) (w : List UInt8) (b : Bool), out.length ≤ i → w.length ≤ i → wsG (bareA n (s.drop i) w b out) 101 (wsplit_C101 s out (nm w) i b) := fun i h1 h2 out w b h3 h4 => wsplit_s101 (ih0 i h1 h2 out w b h3 h4)
    intro i h1 h2 out w b ho hw
    by_cases hi : i < s.length
    · have e1 : w64 ((i : Int) + 1) = ((i + 1 : Nat) : Int) := by rw [w64_id (by omega) (by omega)]; omega
      have hd := dlt hi
      cases hb : blankB (((List.getD s i 0).toNat : Nat) : Int) with
      | true =>
        have hb' : (bif (((List.getD s i 0).toNat : Nat) : Int) == 32 then true else (((List.getD s i 0).toNat : Nat) : Int) == 9) = true := hb
        rw [bareA_blank hi hb]
        simp only [wsplit_t101, eqF (show (i : Int) ≠ (s.length : Int) by omega), hd, d0, Bool.and_self, cond_true, cond_false, Int.toNat_natCast, hb', e1, nm_back]
        cases b with
        | true =>
          simp only [cond_true]
          rw [dT (show (out.length + [w].length) * 16 ≤ maxBytes by rw [mb, List.length_singleton]; omega), cond_true]
          exact Gr_of (ih (i + 1) (by omega) (by omega) (out ++ [w]) [] false (by rw [List.length_append, List.length_singleton]; omega) (Nat.zero_le _))
        | false => exact Gr_of (ih (i + 1) (by omega) (by omega) out w false (by omega) (by omega))
      | false =>
        have hb' : (bif (((List.getD s i 0).toNat : Nat) : Int) == 32 then true else (((List.getD s i 0).toNat : Nat) : Int) == 9) = false := hb
        rw [bareA_piece hi hb]
        have hle := @pcV_le (s.drop i)
        simp only [wsplit_t101, eqF (show (i : Int) ≠ (s.length : Int) by omega), hd, d0, Bool.and_self, cond_true, cond_false, Int.toNat_natCast, hb', e1]
        have next : ∀ q : List UInt8 × Nat, pcV (s.drop i) = some q → wsG (bareA n (s.drop (i + q.2)) (w ++ q.1) true out) 101 (wsplit_C101 s out (nm (w ++ q.1)) ((i + q.2 : Nat) : Int) true) := fun q hq => by
          have h := hle hq
          rw [List.length_drop] at h
          exact ih (i + q.2) (by omega) (by omega) out (w ++ q.1) true (by omega) (by rw [List.length_append]; omega)
        rw [drop_at hi] at next ⊢
        simp only [pcV] at next ⊢
        cases h39 : ((List.getD s i 0).toNat : Int) == 39 with
        | true =>
          have h92 : (((List.getD s i 0).toNat : Int) == 92) = false := eqF (by have := eq_of_beq h39; omega)
          rw [h92, h39] at next
          simp only [h92, cond_true, cond_false] at next ⊢
          refine Gr_of (wsplit_102 s hs out true _ (i + 1) w (by omega) (by omega) ?_)
          by_cases hf : fiB 39 (s.drop (i + 1)) < (s.drop (i + 1)).length
          · rw [dT hf] at next ⊢
            have := next _ rfl
            simp only [cond_true] at this ⊢
            rw [show i + 1 + (fiB 39 (s.drop (i + 1)) + 1) = i + (fiB 39 (s.drop (i + 1)) + 2) by omega]
            exact this
          · rw [dF hf]; rfl
        | false =>
          simp only [cond_false]
          cases h34 : ((List.getD s i 0).toNat : Int) == 34 with
          | true =>
            have h92 : (((List.getD s i 0).toNat : Int) == 92) = false := eqF (by have := eq_of_beq h34; omega)
            have h34n : (((List.getD s i 0).toNat : Int) != 34) = false := neF (eq_of_beq h34)
            rw [h92, h39, h34n] at next
            simp only [h92, h34n, cond_true, cond_false] at next ⊢
            refine Gr_of (wsplit_103 s hs out true _ _ (i + 1) w (Nat.le_refl _) (by omega) (by omega) ?_)
            cases hq : dblV (s.drop (i + 1)) with
            | none => rfl
            | some q =>
              rw [hq] at next
              have := next _ rfl
              simp only [Option.map_some] at this ⊢
              rw [show i + 1 + q.2 = i + (q.2 + 1) by omega]
              exact this
          | false =>
            have h34n : (((List.getD s i 0).toNat : Int) != 34) = true := neT (fun e => by rw [eqT e] at h34; cases h34)
            cases h92 : ((List.getD s i 0).toNat : Int) == 92 with
            | true =>
              rw [h92] at next
              simp only [cond_true]
              by_cases hl : i + 1 < s.length
              · have e2 : w64 (((i + 1 : Nat) : Int) + 1) = ((i + 2 : Nat) : Int) := by rw [w64_id (by omega) (by omega)]; omega
                rw [drop_at hl] at next ⊢
                simp only [eqF (show ((i + 1 : Nat) : Int) ≠ (s.length : Int) by omega), dlt hl, e2, cond_true, cond_false] at next ⊢
                rw [mbT (show ((nm w).length + [(((s.getD (i + 1) 0).toNat : Nat) : Int)].length) * 1 ≤ 140737488355328 by rw [nm_len, List.length_singleton]; omega), nm_one, nm_app, cond_true]
                exact Gr_of (next _ rfl)
              · rw [eqT (show ((i + 1 : Nat) : Int) = (s.length : Int) by omega), List.drop_eq_nil_of_le (show s.length ≤ i + 1 by omega)]
                rfl
            | false =>
              rw [h92, h39, h34n] at next
              simp only [h34n, cond_true, cond_false] at next ⊢
              rw [mbT (show ((nm w).length + [(((s.getD i 0).toNat : Nat) : Int)].length) * 1 ≤ 140737488355328 by rw [nm_len, List.length_singleton]; omega), nm_one, nm_app, cond_true]
              exact Gr_of (next _ rfl)
    · rw [bareA_end (by omega)]
      simp only [wsplit_t101, eqT (show (i : Int) = (s.length : Int) by omega), cond_true]
      exact Gr_of (wsplit_100 out w b (by omega))
theorem wsplit_en (G : Nat → ASt E → Option (List (TV E))) (s : List UInt8) : wsplit_t G s = wsplit_t101 G s [] [] 0 false := by kernel_rfl
theorem wsplit_ok : FnOk E wsplit_id wsplit_W := wsplit_ok_of fun s hk => by
  rw [wsplit_en]
  exact wsplit_101 s (okL1_iff.1 hk) _ 0 (Nat.lt_succ_self _) (Nat.zero_le _) [] [] false (Nat.zero_le _) (Nat.zero_le _)
end Go.Proofs.YtfoflgciceckoaaGreatDoor.Rf