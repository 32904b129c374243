/- The fault laws: what each function of the program and of the reference computes, by the Mirror. -/
import Derived.Test.YtnkdghkliihnaaaMirR
import Derived.Test.YtnkdghkliihnaaaRows
namespace Go.Proofs.Ytnkdghkliihnaaa.Fa
open Go Go.RowKit Go.Proofs.Ytnkdghkliihnaaa.Mir
structure Gap where
  skip : Int
  fail : Int
structure Plan where
  l : List Gap
  more : Int
inductive Ty where
  | int | ref34_Gap | l_ref34_Gap | bool | fault_Gap | l_fault_Gap | fault_Plan | ref34_Plan | l_bool
  deriving DecidableEq
abbrev Den : Ty → Type
  | .int => Int
  | .ref34_Gap => Gap
  | .l_ref34_Gap => List Gap
  | .bool => Bool
  | .fault_Gap => Gap
  | .l_fault_Gap => List Gap
  | .fault_Plan => Plan
  | .ref34_Plan => Plan
  | .l_bool => List Bool
def tid : Ty → TypeId
  | .int => 3
  | .ref34_Gap => 52
  | .l_ref34_Gap => 41
  | .bool => 4
  | .fault_Gap => 51
  | .l_fault_Gap => 43
  | .fault_Plan => 45
  | .ref34_Plan => 47
  | .l_bool => 22
def code : TypeId → Option Ty
  | 3 => some .int
  | 52 => some .ref34_Gap
  | 41 => some .l_ref34_Gap
  | 4 => some .bool
  | 51 => some .fault_Gap
  | 43 => some .l_fault_Gap
  | 45 => some .fault_Plan
  | 47 => some .ref34_Plan
  | 22 => some .l_bool
  | _ => none
def agg : Ty → Bool
  | .int => false
  | .ref34_Gap => true
  | .l_ref34_Gap => false
  | .bool => false
  | .fault_Gap => true
  | .l_fault_Gap => false
  | .fault_Plan => true
  | .ref34_Plan => true
  | .l_bool => false
def size : Ty → Nat
  | .int => 1
  | .ref34_Gap => 2
  | .l_ref34_Gap => 1
  | .bool => 1
  | .fault_Gap => 2
  | .l_fault_Gap => 1
  | .fault_Plan => 2
  | .ref34_Plan => 2
  | .l_bool => 1
def bytes : Ty → Nat
  | .int => 8
  | .ref34_Gap => 16
  | .l_ref34_Gap => 24
  | .bool => 1
  | .fault_Gap => 16
  | .l_fault_Gap => 24
  | .fault_Plan => 32
  | .ref34_Plan => 32
  | .l_bool => 24
def cells : (t : Ty) → Den t → List (DVal Den)
  | .int, x => [.int .i64 x]
  | .ref34_Gap, x => [.int .i64 x.skip, .int .i64 x.fail]
  | .l_ref34_Gap, x => [.slice .ref34_Gap x]
  | .bool, x => [.bool x]
  | .fault_Gap, x => [.int .i64 x.skip, .int .i64 x.fail]
  | .l_fault_Gap, x => [.slice .fault_Gap x]
  | .fault_Plan, x => [.slice .fault_Gap x.l, .int .i64 x.more]
  | .ref34_Plan, x => [.slice .ref34_Gap x.l, .int .i64 x.more]
  | .l_bool, x => [.slice .bool x]
def dec : DecidableEq Ty := inferInstance
def fold : (t : Ty) → List (DVal Den) → Option (Den t)
  | .int, [c] => dInt .i64 c
  | .ref34_Gap, [c0, c1] => match dInt .i64 c0, dInt .i64 c1 with | some y0, some y1 => some (⟨y0, y1⟩ : Gap) | _, _ => none
  | .l_ref34_Gap, [c] => dSl dec .ref34_Gap c
  | .bool, [c] => dBl c
  | .fault_Gap, [c0, c1] => match dInt .i64 c0, dInt .i64 c1 with | some y0, some y1 => some (⟨y0, y1⟩ : Gap) | _, _ => none
  | .l_fault_Gap, [c] => dSl dec .fault_Gap c
  | .fault_Plan, [c0, c1] => match dSl dec .fault_Gap c0, dInt .i64 c1 with | some y0, some y1 => some (⟨y0, y1⟩ : Plan) | _, _ => none
  | .ref34_Plan, [c0, c1] => match dSl dec .ref34_Gap c0, dInt .i64 c1 with | some y0, some y1 => some (⟨y0, y1⟩ : Plan) | _, _ => none
  | .l_bool, [c] => dSl dec .bool c
  | _, _ => none
def dflt : (t : Ty) → Den t
  | .int => (0 : Int)
  | .ref34_Gap => ⟨(0 : Int), (0 : Int)⟩
  | .l_ref34_Gap => []
  | .bool => false
  | .fault_Gap => ⟨(0 : Int), (0 : Int)⟩
  | .l_fault_Gap => []
  | .fault_Plan => ⟨[], (0 : Int)⟩
  | .ref34_Plan => ⟨[], (0 : Int)⟩
  | .l_bool => []
theorem fold_ok : ∀ t cs x, fold t cs = some x → CsLe cs (cells t x) := by
  intro t cs x h
  cases t
  case int => match cs, h with | [c], h => exact ⟨dInt_le h, trivial⟩
  case ref34_Gap =>
    match cs, h with
    | [c0, c1], h =>
      simp only [fold] at h
      split at h
      · rename_i h0 h1; cases h; exact ⟨dInt_le h0, dInt_le h1, trivial⟩
      · cases h
  case l_ref34_Gap => match cs, h with | [c], h => exact ⟨dSl_le h, trivial⟩
  case bool => match cs, h with | [c], h => exact ⟨dBl_le h, trivial⟩
  case fault_Gap =>
    match cs, h with
    | [c0, c1], h =>
      simp only [fold] at h
      split at h
      · rename_i h0 h1; cases h; exact ⟨dInt_le h0, dInt_le h1, trivial⟩
      · cases h
  case l_fault_Gap => match cs, h with | [c], h => exact ⟨dSl_le h, trivial⟩
  case fault_Plan =>
    match cs, h with
    | [c0, c1], h =>
      simp only [fold] at h
      split at h
      · rename_i h0 h1; cases h; exact ⟨dSl_le h0, dInt_le h1, trivial⟩
      · cases h
  case ref34_Plan =>
    match cs, h with
    | [c0, c1], h =>
      simp only [fold] at h
      split at h
      · rename_i h0 h1; cases h; exact ⟨dSl_le h0, dInt_le h1, trivial⟩
      · cases h
  case l_bool => match cs, h with | [c], h => exact ⟨dSl_le h, trivial⟩
theorem code_ok : ∀ i t, code i = some t → i = tid t := by
  intro i t h
  unfold code at h
  split at h <;> first | (cases h; rfl) | cases h
theorem info_ok : ∀ t, ∃ i z, Try.prog.info? (tid t) = some i ∧ i.size = size t ∧ i.bytes = bytes t ∧ i.zero = some z ∧ z.cells.size = size t := by
  intro t
  refine info_of ?_ rfl
  cases t <;> kernel_rfl
theorem agg_ok : ∀ t, isAggT Try.prog (tid t) = agg t := by intro t; cases t <;> kernel_rfl
theorem und_ok : ∀ t, (Try.prog.underlying (tid t)).isSome = true := by intro t; cases t <;> kernel_rfl
abbrev E : Env Try.prog where
  Ty := Ty
  dec := dec
  Den := Den
  tid := tid
  code := code
  agg := agg
  size := size
  bytes := bytes
  cells := cells
  fold := fold
  code_ok := code_ok
  info_ok := info_ok
  agg_ok := agg_ok
  und_ok := und_ok
  size_pos := by intro t; cases t <;> decide
  bytes_pos := by intro t; cases t <;> decide
  one := by intro t h; cases t <;> first | rfl | cases h
  cells_len := by intro t x; cases t <;> rfl
  dflt := dflt
  fold_ok := fold_ok
theorem mix : Try.prog.follows .mixedOrders = true := by kernel_rfl
def w64 (n : Int) : Int := IntKind.wrap .i64 n
theorem w64_id {n : Int} (h : -9223372036854775808 ≤ n) (h' : n ≤ 9223372036854775807) : w64 n = n := by
  unfold w64
  rw [IntKind.wrap_i64]
  omega

/-! ### What they compute -/
def near (n : Int) : Int := if n < 0 then 0 else if 1000 < n then 1000 else n
theorem near_le (n : Int) : 0 ≤ near n ∧ near n ≤ 1000 := by unfold near; split <;> (try split) <;> omega
noncomputable def fnear_W : FnW E := fn1 (E := E) .int .int (fun _ => true) near
def fnear_id : FuncId := 39
noncomputable def fnear_O : Oracle E := orac [] []
noncomputable def fnear_H : Hint E := Hint.mk [] [] []
noncomputable def fnear_t (_G : Nat → ASt E → Option (List (TV E))) (x0 : Int) : Option (List (TV E)) :=
  some [⟨.int, (bif decide ((1000 : Int) < (bif decide (x0 < (0 : Int)) then (0 : Int) else x0)) then (1000 : Int) else (bif decide (x0 < (0 : Int)) then (0 : Int) else x0))⟩]
theorem fnear_e (G : Nat → ASt E → Option (List (TV E))) (x0 : Int) : runE fnear_O fnear_H G Try.f39 [⟨.int, x0⟩] = fnear_t G x0 := by kernel_rfl
theorem fnear_f : Try.prog.funcs[39]? = some Try.f39 := by kernel_rfl
theorem fnear_n : (Try.f39.name == "runtime.NumGoroutine") = false := by kernel_rfl
theorem fnear_b : Try.f39.body.isNone = false := by kernel_rfl
theorem fnear_hO : OracleOk E fnear_O := orac_ok .nil .nil
theorem fnear_ok_of (h : ∀ (x0 : Int), fnear_t (Gr E Try.f39 [⟨.int, near x0⟩]) x0 = some [⟨.int, near x0⟩]) : FnOk E fnear_id fnear_W := fn1_ok fnear_hO mix fnear_f fnear_n fnear_b (fun x0 _ => (fnear_e _ x0).trans (h x0))
theorem fnear_ok : FnOk E fnear_id fnear_W := fnear_ok_of fun x => by
  have e : near x = (bif decide (1000 < (bif decide (x < 0) then 0 else x)) then 1000 else (bif decide (x < 0) then 0 else x)) := by
    simp only [near, Bool.cond_decide]
    split <;> (try split) <;> (try split) <;> first | rfl | omega
  rw [e]
  rfl
noncomputable def rnear_W : FnW E := fn1 (E := E) .int .int (fun _ => true) near
def rnear_id : FuncId := 41
noncomputable def rnear_O : Oracle E := orac [] []
noncomputable def rnear_H : Hint E := Hint.mk [] [] []
noncomputable def rnear_t (_G : Nat → ASt E → Option (List (TV E))) (x0 : Int) : Option (List (TV E)) :=
  bif (decide (x0 < (0 : Int))) then some [⟨.int, (0 : Int)⟩] else (bif (decide ((1000 : Int) < x0)) then some [⟨.int, (1000 : Int)⟩] else some [⟨.int, x0⟩])
theorem rnear_e (G : Nat → ASt E → Option (List (TV E))) (x0 : Int) : runE rnear_O rnear_H G Try.f41 [⟨.int, x0⟩] = rnear_t G x0 := by kernel_rfl
theorem rnear_f : Try.prog.funcs[41]? = some Try.f41 := by kernel_rfl
theorem rnear_n : (Try.f41.name == "runtime.NumGoroutine") = false := by kernel_rfl
theorem rnear_b : Try.f41.body.isNone = false := by kernel_rfl
theorem rnear_hO : OracleOk E rnear_O := orac_ok .nil .nil
theorem rnear_ok_of (h : ∀ (x0 : Int), rnear_t (Gr E Try.f41 [⟨.int, near x0⟩]) x0 = some [⟨.int, near x0⟩]) : FnOk E rnear_id rnear_W := fn1_ok rnear_hO mix rnear_f rnear_n rnear_b (fun x0 _ => (rnear_e _ x0).trans (h x0))
theorem rnear_ok : FnOk E rnear_id rnear_W := rnear_ok_of fun x => by
  simp only [rnear_t, near, Bool.cond_decide]
  split
  · rfl
  · split <;> rfl

def add (p : Plan) (g : Gap) : Plan :=
  if 32 ≤ p.l.length then p else if near g.fail = 0 then ⟨p.l, w64 (p.more + near g.skip)⟩ else ⟨p.l ++ [⟨w64 (p.more + near g.skip), near g.fail⟩], 0⟩
noncomputable def fadd_W : FnW E := fn2 (E := E) .fault_Plan .fault_Gap .fault_Plan (fun _ _ => true) add
def fadd_id : FuncId := 25
noncomputable def fadd_O : Oracle E := orac [(39, fnear_W)] []
noncomputable def fadd_H : Hint E := Hint.mk [] [] []
noncomputable def fadd_t (_G : Nat → ASt E → Option (List (TV E))) (x0 : Plan) (x1 : Gap) : Option (List (TV E)) :=
  bif (decide ((32 : Int) ≤ (x0.l.length : Int))) then some [⟨.fault_Plan, x0⟩] else (bif ((near x1.fail) == (0 : Int)) then some [⟨.fault_Plan, (⟨x0.l, (w64 (x0.more + (near x1.skip)))⟩ : Plan)⟩] else (bif (decide ((0 : Int) ≤ (x0.l.length : Int)) && decide ((x0.l.length : Int) ≤ (w64 ((x0.l.length : Int) + (1 : Int)))) && decide ((w64 ((x0.l.length : Int) + (1 : Int))) * (16 : Int) ≤ maxBytes)) then (bif (decide (((List.take (List.replicate (Int.toNat (x0.l.length : Int)) (⟨(0 : Int), (0 : Int)⟩ : Gap)).length x0.l ++ List.drop x0.l.length (List.replicate (Int.toNat (x0.l.length : Int)) (⟨(0 : Int), (0 : Int)⟩ : Gap))).length + ([(⟨(w64 (x0.more + (near x1.skip))), (near x1.fail)⟩ : Gap)] : List Gap).length) * 16 ≤ maxBytes)) then some [⟨.fault_Plan, (⟨((List.take (List.replicate (Int.toNat (x0.l.length : Int)) (⟨(0 : Int), (0 : Int)⟩ : Gap)).length x0.l ++ List.drop x0.l.length (List.replicate (Int.toNat (x0.l.length : Int)) (⟨(0 : Int), (0 : Int)⟩ : Gap))) ++ ([(⟨(w64 (x0.more + (near x1.skip))), (near x1.fail)⟩ : Gap)] : List Gap)), (0 : Int)⟩ : Plan)⟩] else none) else none))
theorem fadd_e (G : Nat → ASt E → Option (List (TV E))) (x0 : Plan) (x1 : Gap) : runE fadd_O fadd_H G Try.f25 [⟨.fault_Plan, x0⟩, ⟨.fault_Gap, x1⟩] = fadd_t G x0 x1 := by kernel_rfl
theorem fadd_f : Try.prog.funcs[25]? = some Try.f25 := by kernel_rfl
theorem fadd_n : (Try.f25.name == "runtime.NumGoroutine") = false := by kernel_rfl
theorem fadd_b : Try.f25.body.isNone = false := by kernel_rfl
theorem fadd_hO : OracleOk E fadd_O := orac_ok (.cons fnear_ok .nil) .nil
theorem fadd_ok_of (h : ∀ (x0 : Plan) (x1 : Gap), fadd_t (Gr E Try.f25 [⟨.fault_Plan, add x0 x1⟩]) x0 x1 = some [⟨.fault_Plan, add x0 x1⟩]) : FnOk E fadd_id fadd_W := fn2_ok fadd_hO mix fadd_f fadd_n fadd_b (fun x0 x1 _ => (fadd_e _ x0 x1).trans (h x0 x1))
theorem fadd_ok : FnOk E fadd_id fadd_W := fadd_ok_of fun p g => by
  simp only [fadd_t, add, Bool.cond_decide]
  by_cases h : 32 ≤ p.l.length
  · rw [if_pos (by omega), if_pos h]
  · rw [if_neg (by omega), if_neg h]
    by_cases hn : near g.fail = 0
    · simp [hn]
    · have e1 : w64 ((p.l.length : Int) + 1) = (p.l.length : Int) + 1 := w64_id (by omega) (by omega)
      have e2 : List.take (List.replicate (Int.toNat (p.l.length : Int)) (⟨0, 0⟩ : Gap)).length p.l ++ List.drop p.l.length (List.replicate (Int.toNat (p.l.length : Int)) (⟨0, 0⟩ : Gap)) = p.l := by simp
      have e3 : (near g.fail == 0) = false := by simpa using hn
      rw [e1, e2, e3, if_neg hn]
      simp only [cond_false, List.length_cons, List.length_nil]
      have hm : (maxBytes : Int) = 140737488355328 := rfl
      have hm' : maxBytes = 140737488355328 := rfl
      rw [show (decide ((0 : Int) ≤ (p.l.length : Int)) && decide ((p.l.length : Int) ≤ (p.l.length : Int) + 1) && decide (((p.l.length : Int) + 1) * 16 ≤ (maxBytes : Int))) = true from by simp only [Bool.and_eq_true, decide_eq_true_eq]; omega]
      rw [cond_true, if_pos (by omega)]
noncomputable def radd_W : FnW E := fn2 (E := E) .ref34_Plan .ref34_Gap .ref34_Plan (fun _ _ => true) add
def radd_id : FuncId := 28
noncomputable def radd_O : Oracle E := orac [(41, rnear_W)] []
noncomputable def radd_H : Hint E := Hint.mk [(0, [2, 3, 4, 5, 6])] [] [(0, [(5, some 0, true, .ref34_Gap)])]
noncomputable def radd_C0 (v0 : Int) (v1 : List Gap) (v2 : Int) (v3 : Int) (v4 : Int) (v5 : Int) (v6 : List Gap) (v7 : Int) : ASt E := ASt.mk 61 [(2, .ptr 0 0), (3, .ptr 1 0), (4, .ptr 2 0), (5, .ptr 3 0), (6, .d (.int .i64 v0))] [(0, .box [.d (.slice .ref34_Gap v1), .d (.int .i64 v2)]), (1, .box [.d (.int .i64 v3), .d (.int .i64 v4)]), (2, .box [.d (.raw (.slice none 0 0)), .d (.int .i64 v5)]), (3, .box [.grow .ref34_Gap v6 4, .d (.int .i64 v7)]), (4, .tail true)] 5
noncomputable def radd_t (G : Nat → ASt E → Option (List (TV E))) (x0 : Plan) (x1 : Gap) : Option (List (TV E)) :=
  bif (decide ((32 : Int) ≤ (x0.l.length : Int))) then some [⟨.ref34_Plan, x0⟩] else G 0 (radd_C0 (0 : Int) x0.l x0.more x1.skip x1.fail (0 : Int) ([] : List Gap) x0.more)
theorem radd_e (G : Nat → ASt E → Option (List (TV E))) (x0 : Plan) (x1 : Gap) : runE radd_O radd_H G Try.f28 [⟨.ref34_Plan, x0⟩, ⟨.ref34_Gap, x1⟩] = radd_t G x0 x1 := by kernel_rfl
noncomputable def radd_t0 (G : Nat → ASt E → Option (List (TV E))) (v0 : Int) (v1 : List Gap) (v2 : Int) (v3 : Int) (v4 : Int) (v5 : Int) (v6 : List Gap) (v7 : Int) : Option (List (TV E)) :=
  bif (decide (v0 < (v1.length : Int))) then (bif (decide ((0 : Int) ≤ v0) && decide (v0 < (v1.length : Int))) then (bif (decide ((v6.length + ([(List.getD v1 (Int.toNat v0) (dflt .ref34_Gap))] : List Gap).length) * 16 ≤ maxBytes)) then G 0 (radd_C0 (w64 (v0 + (1 : Int))) v1 v2 v3 v4 v5 (v6 ++ ([(List.getD v1 (Int.toNat v0) (dflt .ref34_Gap))] : List Gap)) v7) else none) else none) else (bif ((near v4) == (0 : Int)) then some [⟨.ref34_Plan, (⟨v6, (w64 (v7 + (near v3)))⟩ : Plan)⟩] else (bif (decide ((v6.length + ([(⟨(w64 (v7 + (near v3))), (near v4)⟩ : Gap)] : List Gap).length) * 16 ≤ maxBytes)) then some [⟨.ref34_Plan, (⟨(v6 ++ ([(⟨(w64 (v7 + (near v3))), (near v4)⟩ : Gap)] : List Gap)), (0 : Int)⟩ : Plan)⟩] else none))
theorem radd_l0 (G : Nat → ASt E → Option (List (TV E))) (v0 : Int) (v1 : List Gap) (v2 : Int) (v3 : Int) (v4 : Int) (v5 : Int) (v6 : List Gap) (v7 : Int) : runL radd_O radd_H G Try.f28 0 (radd_C0 v0 v1 v2 v3 v4 v5 v6 v7) = radd_t0 G v0 v1 v2 v3 v4 v5 v6 v7 := by kernel_rfl
theorem radd_f : Try.prog.funcs[28]? = some Try.f28 := by kernel_rfl
theorem radd_n : (Try.f28.name == "runtime.NumGoroutine") = false := by kernel_rfl
theorem radd_b : Try.f28.body.isNone = false := by kernel_rfl
theorem radd_hO : OracleOk E radd_O := orac_ok (.cons rnear_ok .nil) .nil
theorem radd_s0 {res : List (TV E)} {v0 : Int} {v1 : List Gap} {v2 : Int} {v3 : Int} {v4 : Int} {v5 : Int} {v6 : List Gap} {v7 : Int} (h : radd_t0 (Gr E Try.f28 res) v0 v1 v2 v3 v4 v5 v6 v7 = some res) : Ev E Try.f28 res 0 (radd_C0 v0 v1 v2 v3 v4 v5 v6 v7) := Ev.step radd_hO mix ((radd_l0 _ v0 v1 v2 v3 v4 v5 v6 v7).trans h)
theorem radd_ok_of (h : ∀ (x0 : Plan) (x1 : Gap), radd_t (Gr E Try.f28 [⟨.ref34_Plan, add x0 x1⟩]) x0 x1 = some [⟨.ref34_Plan, add x0 x1⟩]) : FnOk E radd_id radd_W := fn2_ok radd_hO mix radd_f radd_n radd_b (fun x0 x1 _ => (radd_e _ x0 x1).trans (h x0 x1))
theorem radd_loop (p : Plan) (g : Gap) (hl : p.l.length < 32) : ∀ (m : Nat) (i : Nat), p.l.length - i = m → i ≤ p.l.length → Ev E Try.f28 [⟨.ref34_Plan, add p g⟩] 0 (radd_C0 i p.l p.more g.skip g.fail 0 (p.l.take i) p.more) := by
  have hm' : maxBytes = 140737488355328 := rfl
  intro m
  induction m with
  | zero =>
    intro i h1 h2
    have e : i = p.l.length := by omega
    subst e
    refine radd_s0 ?_
    simp only [radd_t0, Bool.cond_decide, List.take_length]
    rw [if_neg (by omega)]
    have hnl : ¬ 32 ≤ p.l.length := by omega
    by_cases hn : near g.fail = 0
    · simp [hn, add, hnl]
    · have e3 : (near g.fail == 0) = false := by simpa using hn
      rw [e3, cond_false, if_pos (by simp only [List.length_cons, List.length_nil]; omega)]
      simp [hn, add, hnl]
  | succ m ih =>
    intro i h1 h2
    have hi : i < p.l.length := by omega
    refine radd_s0 ?_
    have hlen : (p.l.take i).length = i := by rw [List.length_take]; omega
    simp only [radd_t0, Bool.cond_decide]
    rw [if_pos (by omega), show (decide ((0 : Int) ≤ (i : Int)) && decide ((i : Int) < (p.l.length : Int))) = true from by simp only [Bool.and_eq_true, decide_eq_true_eq]; omega, cond_true, if_pos (by rw [hlen]; simp only [List.length_cons, List.length_nil]; omega)]
    rw [w64_id (by omega) (by omega)]
    have e : p.l.take i ++ [List.getD p.l (Int.toNat (i : Int)) (dflt .ref34_Gap)] = p.l.take (i + 1) := by
      rw [Int.toNat_natCast, List.getD, List.getElem?_eq_getElem hi, Option.getD_some, List.take_append_getElem hi]
    rw [e]
    exact Gr_of (ih (i + 1) (by omega) (by omega))
theorem radd_ok : FnOk E radd_id radd_W := radd_ok_of fun p g => by
  simp only [radd_t, Bool.cond_decide]
  by_cases h : 32 ≤ p.l.length
  · rw [if_pos (by omega)]
    unfold add
    rw [if_pos h]
  · rw [if_neg (by omega)]
    exact Gr_of (radd_loop p g (by omega) p.l.length 0 (by omega) (by omega))

/-! ### A call -/
def next (p : Plan) : Plan × Bool := match p.l with
  | [] => (⟨[], if 0 < p.more then p.more - 1 else 0⟩, false)
  | g :: t => if 0 < g.skip then (⟨⟨g.skip - 1, g.fail⟩ :: t, p.more⟩, false) else (if g.fail = 1 then ⟨t, p.more⟩ else ⟨⟨0, g.fail - 1⟩ :: t, p.more⟩, true)
def next1 (p : Plan) : Plan := (next p).1
def next2 (p : Plan) : Bool := (next p).2
/-- A plan as the functions make it. -/
def okG (g : Gap) : Bool := decide (0 ≤ g.skip) && decide (g.skip ≤ 1000000) && decide (1 ≤ g.fail) && decide (g.fail ≤ 1000)
def okP (p : Plan) : Bool := decide (0 ≤ p.more) && decide (p.more ≤ 1000000) && decide (p.l.length ≤ 32) && p.l.all okG
theorem okP_iff (p : Plan) : okP p = true ↔ (0 ≤ p.more ∧ p.more ≤ 1000000 ∧ p.l.length ≤ 32) ∧ ∀ g ∈ p.l, 0 ≤ g.skip ∧ g.skip ≤ 1000000 ∧ 1 ≤ g.fail ∧ g.fail ≤ 1000 := by
  simp only [okP, okG, Bool.and_eq_true, decide_eq_true_eq, List.all_eq_true]
  constructor
  · rintro ⟨⟨⟨h1, h2⟩, h3⟩, h4⟩
    exact ⟨⟨h1, h2, h3⟩, fun g hg => by obtain ⟨⟨⟨a, b⟩, c⟩, d⟩ := h4 g hg; exact ⟨a, b, c, d⟩⟩
  · rintro ⟨⟨h1, h2, h3⟩, h4⟩
    exact ⟨⟨⟨h1, h2⟩, h3⟩, fun g hg => by obtain ⟨a, b, c, d⟩ := h4 g hg; exact ⟨⟨⟨a, b⟩, c⟩, d⟩⟩
theorem okP_next (p : Plan) (h : okP p = true) : okP (next1 p) = true := by
  obtain ⟨l, more⟩ := p
  rw [okP_iff] at h ⊢
  obtain ⟨⟨h1, h2, h3⟩, h4⟩ := h
  simp only at h1 h2 h3 h4
  cases l with
  | nil =>
    simp only [next1, next]
    refine ⟨⟨?_, ?_, by simp⟩, fun g hg => by simp at hg⟩ <;> split <;> omega
  | cons g t =>
    have hg := h4 g List.mem_cons_self
    have ht : ∀ x ∈ t, 0 ≤ x.skip ∧ x.skip ≤ 1000000 ∧ 1 ≤ x.fail ∧ x.fail ≤ 1000 := fun x hx => h4 x (List.mem_cons_of_mem _ hx)
    simp only [List.length_cons] at h3
    simp only [next1, next]
    split
    · refine ⟨⟨h1, h2, by simp only [List.length_cons]; omega⟩, fun x hx => ?_⟩
      cases hx with
      | head => exact ⟨by simp only; omega, by simp only; omega, hg.2.2⟩
      | tail _ hx => exact ht x hx
    · simp only
      split
      · exact ⟨⟨h1, h2, by simp only; omega⟩, ht⟩
      · refine ⟨⟨h1, h2, by simp only [List.length_cons]; omega⟩, fun x hx => ?_⟩
        cases hx with
        | head => exact ⟨by simp, by simp, by simp only; omega, by simp only; omega⟩
        | tail _ hx => exact ht x hx
noncomputable def fnext_W : FnW E := fn12 (E := E) .fault_Plan .fault_Plan .bool okP next1 next2
def fnext_id : FuncId := 26
noncomputable def fnext_O : Oracle E := orac [] [(40, cloneF 51)]
noncomputable def fnext_H : Hint E := Hint.mk [] [] []
noncomputable def fnext_t (_G : Nat → ASt E → Option (List (TV E))) (x0 : Plan) : Option (List (TV E)) :=
  bif ((x0.l.length : Int) == (0 : Int)) then some [⟨.fault_Plan, (⟨x0.l, (bif decide ((w64 (x0.more - (1 : Int))) < (0 : Int)) then (0 : Int) else (w64 (x0.more - (1 : Int))))⟩ : Plan)⟩, ⟨.bool, false⟩] else (bif (decide ((0 : Int) ≤ (0 : Int)) && decide ((0 : Int) < (x0.l.length : Int))) then (bif (decide ((0 : Int) < (List.getD x0.l (Int.toNat (0 : Int)) (dflt .fault_Gap)).skip)) then (bif (decide ((0 : Int) ≤ (0 : Int)) && decide ((0 : Int) < (x0.l.length : Int))) then (bif ((List.getD x0.l (Int.toNat (0 : Int)) (dflt .fault_Gap)).fail == (0 : Int)) then (bif (decide ((0 : Int) ≤ (1 : Int)) && decide ((1 : Int) ≤ (x0.l.length : Int)) && decide ((x0.l.length : Int) ≤ (x0.l.length : Int))) then some [⟨.fault_Plan, (⟨(List.take (Int.toNat (x0.l.length : Int) - Int.toNat (1 : Int)) (List.drop (Int.toNat (1 : Int)) x0.l)), x0.more⟩ : Plan)⟩, ⟨.bool, (decide ((List.getD x0.l (Int.toNat (0 : Int)) (dflt .fault_Gap)).fail < (List.getD x0.l (Int.toNat (0 : Int)) (dflt .fault_Gap)).fail))⟩] else none) else (bif (decide (x0.l.length * 16 ≤ maxBytes)) then (bif (decide ((0 : Int) ≤ (0 : Int)) && decide ((0 : Int) < (x0.l.length : Nat))) then some [⟨.fault_Plan, (⟨(List.set x0.l (Int.toNat (0 : Int)) (⟨(w64 ((List.getD x0.l (Int.toNat (0 : Int)) (dflt .fault_Gap)).skip - (1 : Int))), (List.getD x0.l (Int.toNat (0 : Int)) (dflt .fault_Gap)).fail⟩ : Gap)), x0.more⟩ : Plan)⟩, ⟨.bool, (decide ((List.getD x0.l (Int.toNat (0 : Int)) (dflt .fault_Gap)).fail < (List.getD x0.l (Int.toNat (0 : Int)) (dflt .fault_Gap)).fail))⟩] else none) else none)) else none) else (bif (decide ((0 : Int) ≤ (0 : Int)) && decide ((0 : Int) < (x0.l.length : Int))) then (bif ((w64 ((List.getD x0.l (Int.toNat (0 : Int)) (dflt .fault_Gap)).fail - (1 : Int))) == (0 : Int)) then (bif (decide ((0 : Int) ≤ (1 : Int)) && decide ((1 : Int) ≤ (x0.l.length : Int)) && decide ((x0.l.length : Int) ≤ (x0.l.length : Int))) then some [⟨.fault_Plan, (⟨(List.take (Int.toNat (x0.l.length : Int) - Int.toNat (1 : Int)) (List.drop (Int.toNat (1 : Int)) x0.l)), x0.more⟩ : Plan)⟩, ⟨.bool, (decide ((w64 ((List.getD x0.l (Int.toNat (0 : Int)) (dflt .fault_Gap)).fail - (1 : Int))) < (List.getD x0.l (Int.toNat (0 : Int)) (dflt .fault_Gap)).fail))⟩] else none) else (bif (decide (x0.l.length * 16 ≤ maxBytes)) then (bif (decide ((0 : Int) ≤ (0 : Int)) && decide ((0 : Int) < (x0.l.length : Nat))) then some [⟨.fault_Plan, (⟨(List.set x0.l (Int.toNat (0 : Int)) (⟨(List.getD x0.l (Int.toNat (0 : Int)) (dflt .fault_Gap)).skip, (w64 ((List.getD x0.l (Int.toNat (0 : Int)) (dflt .fault_Gap)).fail - (1 : Int)))⟩ : Gap)), x0.more⟩ : Plan)⟩, ⟨.bool, (decide ((w64 ((List.getD x0.l (Int.toNat (0 : Int)) (dflt .fault_Gap)).fail - (1 : Int))) < (List.getD x0.l (Int.toNat (0 : Int)) (dflt .fault_Gap)).fail))⟩] else none) else none)) else none)) else none)
theorem fnext_e (G : Nat → ASt E → Option (List (TV E))) (x0 : Plan) : runE fnext_O fnext_H G Try.f26 [⟨.fault_Plan, x0⟩] = fnext_t G x0 := by kernel_rfl
theorem fnext_f : Try.prog.funcs[26]? = some Try.f26 := by kernel_rfl
theorem fnext_n : (Try.f26.name == "runtime.NumGoroutine") = false := by kernel_rfl
theorem fnext_b : Try.f26.body.isNone = false := by kernel_rfl
theorem fnext_hO : OracleOk E fnext_O := orac_ok .nil (.cons (clone_fresh (T := 43) (b := 4) (e := 51) (fn := Try.f40) (by kernel_rfl) (by kernel_rfl) (by kernel_rfl) (by kernel_rfl) (by kernel_rfl) (by kernel_rfl)) .nil)
theorem fnext_ok_of (h : ∀ (x0 : Plan), okP x0 = true → fnext_t (Gr E Try.f26 [⟨.fault_Plan, next1 x0⟩, ⟨.bool, next2 x0⟩]) x0 = some [⟨.fault_Plan, next1 x0⟩, ⟨.bool, next2 x0⟩]) : FnOk E fnext_id fnext_W := fn12_ok fnext_hO mix fnext_f fnext_n fnext_b (fun x0 hk => (fnext_e _ x0).trans (h x0 hk))
theorem fnext_ok : FnOk E fnext_id fnext_W := fnext_ok_of fun p hk => by
  have hm' : maxBytes = 140737488355328 := rfl
  obtain ⟨l, more⟩ := p
  rw [okP_iff] at hk
  obtain ⟨⟨h1, h2, h3⟩, h4⟩ := hk
  simp only at h1 h2 h3 h4
  cases l with
  | nil =>
    have e : w64 (more - 1) = more - 1 := w64_id (by omega) (by omega)
    by_cases hm : 0 < more
    · have hn : ¬ more - 1 < 0 := by omega
      simp [fnext_t, next1, next2, next, e, hm, hn]
    · have hn : more - 1 < 0 := by omega
      simp [fnext_t, next1, next2, next, e, hm, hn]
  | cons g t =>
    obtain ⟨a1, a2, a3, a4⟩ := h4 g List.mem_cons_self
    simp only [List.length_cons] at h3
    have hlen : (t.length + 1) * 16 ≤ maxBytes := by omega
    have hd : (List.getD (g :: t) (Int.toNat 0) (dflt .fault_Gap)) = g := rfl
    have hset : ∀ x, List.set (g :: t) (Int.toNat 0) x = x :: t := fun _ => rfl
    have hdrop : List.take (Int.toNat ((g :: t).length : Int) - Int.toNat 1) (List.drop (Int.toNat 1) (g :: t)) = t := by simp
    have hnx : next ⟨g :: t, more⟩ = if 0 < g.skip then (⟨⟨g.skip - 1, g.fail⟩ :: t, more⟩, false) else (if g.fail = 1 then ⟨t, more⟩ else ⟨⟨0, g.fail - 1⟩ :: t, more⟩, true) := rfl
    simp only [fnext_t, next1, next2, hnx, hd, hset, hdrop]
    simp only [List.length_cons, Bool.cond_eq_ite, beq_iff_eq, decide_eq_true_eq, Bool.and_eq_true]
    by_cases hs : 0 < g.skip
    · simp (disch := omega) only [if_pos, if_neg, w64_id, Int.lt_irrefl, decide_false]
    · by_cases hf : g.fail = 1
      · have hg : decide (g.fail - 1 < g.fail) = true := by simp only [decide_eq_true_eq]; omega
        simp (disch := omega) only [if_pos, if_neg, w64_id, hg]
      · have hg : decide (g.fail - 1 < g.fail) = true := by simp only [decide_eq_true_eq]; omega
        have hz : g.skip = 0 := by omega
        simp (disch := omega) only [if_pos, if_neg, w64_id, hg]
        rw [hz]
noncomputable def rnext_W : FnW E := fn12 (E := E) .ref34_Plan .ref34_Plan .bool okP next1 next2
def rnext_id : FuncId := 27
noncomputable def rnext_O : Oracle E := orac [] []
noncomputable def rnext_H : Hint E := Hint.mk [(0, [1, 2, 4, 5, 7])] [] [(0, [(4, some 0, true, .ref34_Gap)])]
noncomputable def rnext_C0 (v0 : Bool) (v1 : Int) (v2 : List Gap) (v3 : Int) (v4 : Int) (v5 : List Gap) (v6 : Int) : ASt E := ASt.mk 77 [(1, .ptr 0 0), (2, .ptr 1 0), (4, .ptr 2 0), (5, .d (.bool v0)), (7, .d (.int .i64 v1))] [(0, .box [.d (.slice .ref34_Gap v2), .d (.int .i64 v3)]), (1, .box [.d (.raw (.slice none 0 0)), .d (.int .i64 v4)]), (2, .box [.grow .ref34_Gap v5 3, .d (.int .i64 v6)]), (3, .tail true)] 4
noncomputable def rnext_t (G : Nat → ASt E → Option (List (TV E))) (x0 : Plan) : Option (List (TV E)) :=
  bif ((x0.l.length : Int) == (0 : Int)) then (bif (decide ((0 : Int) < x0.more)) then some [⟨.ref34_Plan, (⟨([] : List Gap), (w64 (x0.more - (1 : Int)))⟩ : Plan)⟩, ⟨.bool, false⟩] else some [⟨.ref34_Plan, x0⟩, ⟨.bool, false⟩]) else (bif (decide ((0 : Int) ≤ (0 : Int)) && decide ((0 : Int) < (x0.l.length : Int))) then (bif (decide ((0 : Int) ≤ (0 : Int)) && decide ((0 : Int) < (x0.l.length : Int))) then (bif (decide ((0 : Int) ≤ (0 : Int)) && decide ((0 : Int) < (x0.l.length : Int))) then (bif ((List.getD x0.l (Int.toNat (0 : Int)) (dflt .ref34_Gap)).skip == (0 : Int)) then (bif (decide ((0 : Int) ≤ (0 : Int)) && decide ((0 : Int) < (x0.l.length : Int))) then (bif (decide ((0 : Int) < (⟨(0 : Int), (w64 ((List.getD x0.l (Int.toNat (0 : Int)) (dflt .ref34_Gap)).fail - (1 : Int)))⟩ : Gap).fail)) then (bif (decide (([(⟨(0 : Int), (w64 ((List.getD x0.l (Int.toNat (0 : Int)) (dflt .ref34_Gap)).fail - (1 : Int)))⟩ : Gap)] : List Gap).length * 16 ≤ maxBytes)) then G 0 (rnext_C0 ((List.getD x0.l (Int.toNat (0 : Int)) (dflt .ref34_Gap)).skip == (0 : Int)) (1 : Int) x0.l x0.more (0 : Int) ([(⟨(0 : Int), (w64 ((List.getD x0.l (Int.toNat (0 : Int)) (dflt .ref34_Gap)).fail - (1 : Int)))⟩ : Gap)] : List Gap) x0.more) else none) else G 0 (rnext_C0 ((List.getD x0.l (Int.toNat (0 : Int)) (dflt .ref34_Gap)).skip == (0 : Int)) (1 : Int) x0.l x0.more (0 : Int) ([] : List Gap) x0.more)) else none) else (bif (decide ((0 : Int) < (⟨(w64 ((List.getD x0.l (Int.toNat (0 : Int)) (dflt .ref34_Gap)).skip - (1 : Int))), (List.getD x0.l (Int.toNat (0 : Int)) (dflt .ref34_Gap)).fail⟩ : Gap).fail)) then (bif (decide (([(⟨(w64 ((List.getD x0.l (Int.toNat (0 : Int)) (dflt .ref34_Gap)).skip - (1 : Int))), (List.getD x0.l (Int.toNat (0 : Int)) (dflt .ref34_Gap)).fail⟩ : Gap)] : List Gap).length * 16 ≤ maxBytes)) then G 0 (rnext_C0 ((List.getD x0.l (Int.toNat (0 : Int)) (dflt .ref34_Gap)).skip == (0 : Int)) (1 : Int) x0.l x0.more (0 : Int) ([(⟨(w64 ((List.getD x0.l (Int.toNat (0 : Int)) (dflt .ref34_Gap)).skip - (1 : Int))), (List.getD x0.l (Int.toNat (0 : Int)) (dflt .ref34_Gap)).fail⟩ : Gap)] : List Gap) x0.more) else none) else G 0 (rnext_C0 ((List.getD x0.l (Int.toNat (0 : Int)) (dflt .ref34_Gap)).skip == (0 : Int)) (1 : Int) x0.l x0.more (0 : Int) ([] : List Gap) x0.more))) else none) else none) else none)
theorem rnext_e (G : Nat → ASt E → Option (List (TV E))) (x0 : Plan) : runE rnext_O rnext_H G Try.f27 [⟨.ref34_Plan, x0⟩] = rnext_t G x0 := by kernel_rfl
noncomputable def rnext_t0 (G : Nat → ASt E → Option (List (TV E))) (v0 : Bool) (v1 : Int) (v2 : List Gap) (v3 : Int) (v4 : Int) (v5 : List Gap) (v6 : Int) : Option (List (TV E)) :=
  bif (decide (v1 < (v2.length : Int))) then (bif (decide ((0 : Int) ≤ v1) && decide (v1 < (v2.length : Int))) then (bif (decide ((v5.length + ([(List.getD v2 (Int.toNat v1) (dflt .ref34_Gap))] : List Gap).length) * 16 ≤ maxBytes)) then G 0 (rnext_C0 v0 (w64 (v1 + (1 : Int))) v2 v3 v4 (v5 ++ ([(List.getD v2 (Int.toNat v1) (dflt .ref34_Gap))] : List Gap)) v6) else none) else none) else some [⟨.ref34_Plan, (⟨v5, v6⟩ : Plan)⟩, ⟨.bool, v0⟩]
theorem rnext_l0 (G : Nat → ASt E → Option (List (TV E))) (v0 : Bool) (v1 : Int) (v2 : List Gap) (v3 : Int) (v4 : Int) (v5 : List Gap) (v6 : Int) : runL rnext_O rnext_H G Try.f27 0 (rnext_C0 v0 v1 v2 v3 v4 v5 v6) = rnext_t0 G v0 v1 v2 v3 v4 v5 v6 := by kernel_rfl
theorem rnext_f : Try.prog.funcs[27]? = some Try.f27 := by kernel_rfl
theorem rnext_n : (Try.f27.name == "runtime.NumGoroutine") = false := by kernel_rfl
theorem rnext_b : Try.f27.body.isNone = false := by kernel_rfl
theorem rnext_hO : OracleOk E rnext_O := orac_ok .nil .nil
theorem rnext_s0 {res : List (TV E)} {v0 : Bool} {v1 : Int} {v2 : List Gap} {v3 : Int} {v4 : Int} {v5 : List Gap} {v6 : Int} (h : rnext_t0 (Gr E Try.f27 res) v0 v1 v2 v3 v4 v5 v6 = some res) : Ev E Try.f27 res 0 (rnext_C0 v0 v1 v2 v3 v4 v5 v6) := Ev.step rnext_hO mix ((rnext_l0 _ v0 v1 v2 v3 v4 v5 v6).trans h)
theorem rnext_ok_of (h : ∀ (x0 : Plan), okP x0 = true → rnext_t (Gr E Try.f27 [⟨.ref34_Plan, next1 x0⟩, ⟨.bool, next2 x0⟩]) x0 = some [⟨.ref34_Plan, next1 x0⟩, ⟨.bool, next2 x0⟩]) : FnOk E rnext_id rnext_W := fn12_ok rnext_hO mix rnext_f rnext_n rnext_b (fun x0 hk => (rnext_e _ x0).trans (h x0 hk))
theorem rnext_loop (b : Bool) (l : List Gap) (m0 more : Int) (h32 : l.length ≤ 32) : ∀ (m i : Nat) (acc : List Gap), l.length - i = m → i ≤ l.length → acc.length + m ≤ 64 →
    Ev E Try.f27 [⟨.ref34_Plan, (⟨acc ++ l.drop i, more⟩ : Plan)⟩, ⟨.bool, b⟩] 0 (rnext_C0 b i l m0 0 acc more) := by
  have hm' : maxBytes = 140737488355328 := rfl
  intro m
  induction m with
  | zero =>
    intro i acc h1 h2 h3
    refine rnext_s0 ?_
    have e : l.drop i = [] := List.drop_eq_nil_of_le (by omega)
    simp only [rnext_t0, Bool.cond_eq_ite, decide_eq_true_eq, Bool.and_eq_true]
    rw [if_neg (by omega), e, List.append_nil]
  | succ m ih =>
    intro i acc h1 h2 h3
    have hi : i < l.length := by omega
    refine rnext_s0 ?_
    simp only [rnext_t0, Bool.cond_eq_ite, decide_eq_true_eq, Bool.and_eq_true, List.length_cons, List.length_nil]
    simp (disch := omega) only [if_pos, w64_id]
    have e1 : List.getD l (Int.toNat (i : Int)) (dflt .ref34_Gap) = l[i] := by rw [Int.toNat_natCast, List.getD, List.getElem?_eq_getElem hi]; rfl
    have e2 : acc ++ l.drop i = (acc ++ [l[i]]) ++ l.drop (i + 1) := by rw [List.append_assoc, List.singleton_append, List.getElem_cons_drop]
    rw [e1, e2]
    exact Gr_of (ih (i + 1) (acc ++ [l[i]]) (by omega) (by omega) (by simp; omega))
theorem rnext_ok : FnOk E rnext_id rnext_W := rnext_ok_of fun p hk => by
  have hm' : maxBytes = 140737488355328 := rfl
  obtain ⟨l, more⟩ := p
  rw [okP_iff] at hk
  obtain ⟨⟨h1, h2, h3⟩, h4⟩ := hk
  simp only at h1 h2 h3 h4
  cases l with
  | nil =>
    simp only [rnext_t, next1, next2, next, Bool.cond_eq_ite, decide_eq_true_eq, beq_iff_eq, List.length_nil]
    by_cases hm : 0 < more
    · simp (disch := omega) only [if_pos, w64_id]
    · have hz : more = 0 := by omega
      subst hz
      simp (disch := omega) only [if_pos, if_neg]
  | cons g t =>
    obtain ⟨a1, a2, a3, a4⟩ := h4 g List.mem_cons_self
    simp only [List.length_cons] at h3
    have hd : (List.getD (g :: t) (Int.toNat 0) (dflt .ref34_Gap)) = g := rfl
    have hnx : next ⟨g :: t, more⟩ = if 0 < g.skip then (⟨⟨g.skip - 1, g.fail⟩ :: t, more⟩, false) else (if g.fail = 1 then ⟨t, more⟩ else ⟨⟨0, g.fail - 1⟩ :: t, more⟩, true) := rfl
    have hloop := fun b acc hacc => rnext_loop b (g :: t) more more (by simp only [List.length_cons]; omega) t.length 1 acc (by simp) (by simp) hacc
    simp only [rnext_t, next1, next2, hnx, hd]
    simp only [List.length_cons, List.length_nil, Bool.cond_eq_ite, beq_iff_eq, decide_eq_true_eq, Bool.and_eq_true]
    by_cases hs : 0 < g.skip
    · have hb : (g.skip == 0) = false := by simp only [beq_eq_false_iff_ne]; omega
      simp (disch := omega) only [if_pos, if_neg, w64_id, hb]
      exact Gr_of (hloop false [⟨g.skip - 1, g.fail⟩] (by simp; omega))
    · have hz : g.skip = 0 := by omega
      have hb : (g.skip == 0) = true := by simp [hz]
      by_cases hf : g.fail = 1
      · simp (disch := omega) only [if_pos, if_neg, w64_id, hb]
        exact Gr_of (hloop true [] (by simp; omega))
      · simp (disch := omega) only [if_pos, if_neg, w64_id, hb]
        exact Gr_of (hloop true [⟨0, g.fail - 1⟩] (by simp; omega))

/-! ### Rows of calls, plans of gaps, what is left -/
def rowN : Nat → Plan → List Bool
  | 0, _ => []
  | n + 1, p => next2 p :: rowN n (next1 p)
def row (p : Plan) (n : Int) : List Bool := rowN (Int.toNat (min n 5000)) p
noncomputable def frow_W : FnW E := fn2 (E := E) .fault_Plan .int .l_bool (fun p _ => okP p) row
def frow_id : FuncId := 29
noncomputable def frow_O : Oracle E := orac [(26, fnext_W)] []
noncomputable def frow_H : Hint E := Hint.mk [(0, [2, 5, 8, 9])] [] [(0, [(5, none, true, .bool)])]
noncomputable def frow_C0 (v0 : List Bool) (v1 : Int) (v2 : Int) (v3 : List Gap) (v4 : Int) : ASt E := ASt.mk 22 [(2, .ptr 0 0), (5, .grow .bool v0 1), (8, .d (.int .i64 v1)), (9, .d (.int .i64 v2))] [(0, .box [.d (.slice .fault_Gap v3), .d (.int .i64 v4)]), (1, .tail true)] 2
noncomputable def frow_t (G : Nat → ASt E → Option (List (TV E))) (x0 : Plan) (x1 : Int) : Option (List (TV E)) :=
  G 0 (frow_C0 ([] : List Bool) (bif decide ((5000 : Int) < x1) then (5000 : Int) else x1) (0 : Int) x0.l x0.more)
theorem frow_e (G : Nat → ASt E → Option (List (TV E))) (x0 : Plan) (x1 : Int) : runE frow_O frow_H G Try.f29 [⟨.fault_Plan, x0⟩, ⟨.int, x1⟩] = frow_t G x0 x1 := by kernel_rfl
noncomputable def frow_t0 (G : Nat → ASt E → Option (List (TV E))) (v0 : List Bool) (v1 : Int) (v2 : Int) (v3 : List Gap) (v4 : Int) : Option (List (TV E)) :=
  bif (decide (v2 < v1)) then (bif (okP (⟨v3, v4⟩ : Plan)) then (bif (decide ((v0.length + ([(next2 (⟨v3, v4⟩ : Plan))] : List Bool).length) * 1 ≤ maxBytes)) then G 0 (frow_C0 (v0 ++ ([(next2 (⟨v3, v4⟩ : Plan))] : List Bool)) v1 (w64 (v2 + (1 : Int))) ((next1 (⟨v3, v4⟩ : Plan)).l) ((next1 (⟨v3, v4⟩ : Plan)).more)) else none) else none) else some [⟨.l_bool, v0⟩]
theorem frow_l0 (G : Nat → ASt E → Option (List (TV E))) (v0 : List Bool) (v1 : Int) (v2 : Int) (v3 : List Gap) (v4 : Int) : runL frow_O frow_H G Try.f29 0 (frow_C0 v0 v1 v2 v3 v4) = frow_t0 G v0 v1 v2 v3 v4 := by kernel_rfl
theorem frow_f : Try.prog.funcs[29]? = some Try.f29 := by kernel_rfl
theorem frow_n : (Try.f29.name == "runtime.NumGoroutine") = false := by kernel_rfl
theorem frow_b : Try.f29.body.isNone = false := by kernel_rfl
theorem frow_hO : OracleOk E frow_O := orac_ok (.cons fnext_ok .nil) .nil
theorem frow_s0 {res : List (TV E)} {v0 : List Bool} {v1 : Int} {v2 : Int} {v3 : List Gap} {v4 : Int} (h : frow_t0 (Gr E Try.f29 res) v0 v1 v2 v3 v4 = some res) : Ev E Try.f29 res 0 (frow_C0 v0 v1 v2 v3 v4) := Ev.step frow_hO mix ((frow_l0 _ v0 v1 v2 v3 v4).trans h)
theorem frow_ok_of (h : ∀ (x0 : Plan) (x1 : Int), (fun p _ => okP p) x0 x1 = true → frow_t (Gr E Try.f29 [⟨.l_bool, row x0 x1⟩]) x0 x1 = some [⟨.l_bool, row x0 x1⟩]) : FnOk E frow_id frow_W := fn2_ok frow_hO mix frow_f frow_n frow_b (fun x0 x1 hk => (frow_e _ x0 x1).trans (h x0 x1 hk))
theorem frow_loop (N : Int) (hN : N ≤ 5000) : ∀ (m i : Nat) (out : List Bool) (p : Plan), Int.toNat (N - i) = m → out.length = i → i ≤ 5000 → okP p = true → Ev E Try.f29 [⟨.l_bool, out ++ rowN m p⟩] 0 (frow_C0 out N i p.l p.more) := by
  have hm' : maxBytes = 140737488355328 := rfl
  intro m
  induction m with
  | zero =>
    intro i out p h1 h2 h3 hp
    refine frow_s0 ?_
    simp only [frow_t0, Bool.cond_eq_ite, decide_eq_true_eq, rowN, List.append_nil]
    rw [if_neg (by omega)]
  | succ m ih =>
    intro i out p h1 h2 h3 hp
    refine frow_s0 ?_
    have hp' : okP ⟨p.l, p.more⟩ = true := hp
    simp only [frow_t0, Bool.cond_eq_ite, decide_eq_true_eq, List.length_cons, List.length_nil]
    rw [if_pos (by omega), if_pos hp', if_pos (by omega), w64_id (by omega) (by omega)]
    have e : out ++ rowN (m + 1) p = (out ++ [next2 p]) ++ rowN m (next1 p) := by simp [rowN]
    rw [e]
    exact Gr_of (ih (i + 1) (out ++ [next2 p]) (next1 p) (by omega) (by simp [h2]) (by omega) (okP_next p hp))
theorem frow_ok : FnOk E frow_id frow_W := frow_ok_of fun p n hp => by
  simp only [frow_t, Bool.cond_eq_ite, decide_eq_true_eq]
  have e : (if 5000 < n then 5000 else n) = min n 5000 := by split <;> omega
  rw [e]
  exact Gr_of (frow_loop (min n 5000) (by omega) (Int.toNat (min n 5000)) 0 [] p (by omega) rfl (by omega) hp)

def ofL (l : List Gap) : Plan := l.foldl add ⟨[], 0⟩
def len1000 (l : List Gap) : Bool := decide (l.length ≤ 1000)
noncomputable def fof_W : FnW E := fn1 (E := E) .l_fault_Gap .fault_Plan len1000 ofL
def fof_id : FuncId := 30
noncomputable def fof_O : Oracle E := orac [(25, fadd_W)] []
noncomputable def fof_H : Hint E := Hint.mk [(0, [2, 3, 6, 7, 8])] [] [(0, [(3, some 0, false, .fault_Gap)])]
noncomputable def fof_C0 (v0 : List Gap) (v1 : Int) (v2 : Int) (v3 : Int) (v4 : List Gap) (v5 : Int) : ASt E := ASt.mk 17 [(2, .ptr 0 0), (3, .ptr 1 0), (6, .d (.slice .fault_Gap v0)), (7, .d (.int .i64 v1)), (8, .d (.int .i64 v2))] [(0, .box [.d (.raw (.slice none 0 0)), .d (.int .i64 v3)]), (1, .box [.d (.slice .fault_Gap v4), .d (.int .i64 v5)])] 2
noncomputable def fof_t (G : Nat → ASt E → Option (List (TV E))) (x0 : List Gap) : Option (List (TV E)) :=
  G 0 (fof_C0 x0 (x0.length : Int) (0 : Int) (0 : Int) ([] : List Gap) (0 : Int))
theorem fof_e (G : Nat → ASt E → Option (List (TV E))) (x0 : List Gap) : runE fof_O fof_H G Try.f30 [⟨.l_fault_Gap, x0⟩] = fof_t G x0 := by kernel_rfl
noncomputable def fof_t0 (G : Nat → ASt E → Option (List (TV E))) (v0 : List Gap) (v1 : Int) (v2 : Int) (v3 : Int) (v4 : List Gap) (v5 : Int) : Option (List (TV E)) :=
  bif (decide (v2 < v1)) then (bif (decide ((0 : Int) ≤ v2) && decide (v2 < (v0.length : Int))) then G 0 (fof_C0 v0 v1 (w64 (v2 + (1 : Int))) v3 ((add (⟨v4, v5⟩ : Plan) (List.getD v0 (Int.toNat v2) (dflt .fault_Gap))).l) ((add (⟨v4, v5⟩ : Plan) (List.getD v0 (Int.toNat v2) (dflt .fault_Gap))).more)) else none) else some [⟨.fault_Plan, (⟨v4, v5⟩ : Plan)⟩]
theorem fof_l0 (G : Nat → ASt E → Option (List (TV E))) (v0 : List Gap) (v1 : Int) (v2 : Int) (v3 : Int) (v4 : List Gap) (v5 : Int) : runL fof_O fof_H G Try.f30 0 (fof_C0 v0 v1 v2 v3 v4 v5) = fof_t0 G v0 v1 v2 v3 v4 v5 := by kernel_rfl
theorem fof_f : Try.prog.funcs[30]? = some Try.f30 := by kernel_rfl
theorem fof_n : (Try.f30.name == "runtime.NumGoroutine") = false := by kernel_rfl
theorem fof_b : Try.f30.body.isNone = false := by kernel_rfl
theorem fof_hO : OracleOk E fof_O := orac_ok (.cons fadd_ok .nil) .nil
theorem fof_s0 {res : List (TV E)} {v0 : List Gap} {v1 : Int} {v2 : Int} {v3 : Int} {v4 : List Gap} {v5 : Int} (h : fof_t0 (Gr E Try.f30 res) v0 v1 v2 v3 v4 v5 = some res) : Ev E Try.f30 res 0 (fof_C0 v0 v1 v2 v3 v4 v5) := Ev.step fof_hO mix ((fof_l0 _ v0 v1 v2 v3 v4 v5).trans h)
theorem fof_ok_of (h : ∀ (x0 : List Gap), len1000 x0 = true → fof_t (Gr E Try.f30 [⟨.fault_Plan, ofL x0⟩]) x0 = some [⟨.fault_Plan, ofL x0⟩]) : FnOk E fof_id fof_W := fn1_ok fof_hO mix fof_f fof_n fof_b (fun x0 hk => (fof_e _ x0).trans (h x0 hk))
theorem fof_loop (l : List Gap) (hl : l.length ≤ 1000) (z : Int) : ∀ (m i : Nat) (p : Plan), l.length - i = m → i ≤ l.length → Ev E Try.f30 [⟨.fault_Plan, (l.drop i).foldl add p⟩] 0 (fof_C0 l l.length i z p.l p.more) := by
  intro m
  induction m with
  | zero =>
    intro i p h1 h2
    refine fof_s0 ?_
    have e : l.drop i = [] := List.drop_eq_nil_of_le (by omega)
    simp only [fof_t0, Bool.cond_eq_ite, decide_eq_true_eq, e, List.foldl_nil]
    rw [if_neg (by omega)]
  | succ m ih =>
    intro i p h1 h2
    have hi : i < l.length := by omega
    refine fof_s0 ?_
    simp only [fof_t0, Bool.cond_eq_ite, decide_eq_true_eq, Bool.and_eq_true]
    rw [if_pos (by omega), if_pos (by omega), w64_id (by omega) (by omega)]
    have e1 : List.getD l (Int.toNat (i : Int)) (dflt .fault_Gap) = l[i] := by rw [Int.toNat_natCast, List.getD, List.getElem?_eq_getElem hi]; rfl
    have e2 : (l.drop i).foldl add p = (l.drop (i + 1)).foldl add (add p l[i]) := by rw [← List.getElem_cons_drop hi, List.foldl_cons]
    rw [e1, e2]
    exact Gr_of (ih (i + 1) (add p l[i]) (by omega) (by omega))
theorem fof_ok : FnOk E fof_id fof_W := fof_ok_of fun l hl => by
  have hl : l.length ≤ 1000 := by simpa [len1000] using hl
  exact Gr_of (fof_loop l hl 0 l.length 0 ⟨[], 0⟩ (by omega) (by omega))
noncomputable def rof_W : FnW E := fn1 (E := E) .l_ref34_Gap .ref34_Plan len1000 ofL
def rof_id : FuncId := 24
noncomputable def rof_O : Oracle E := orac [(28, radd_W)] []
noncomputable def rof_H : Hint E := Hint.mk [(0, [0, 2, 3, 4])] [] [(0, [(3, some 0, false, .ref34_Gap)])]
noncomputable def rof_C0 (v0 : List Gap) (v1 : Int) (v2 : Int) (v3 : List Gap) (v4 : Int) : ASt E := ASt.mk 19 [(0, .d (.slice .ref34_Gap v0)), (2, .ptr 0 0), (3, .ptr 1 0), (4, .d (.int .i64 v1))] [(0, .box [.d (.raw (.slice none 0 0)), .d (.int .i64 v2)]), (1, .box [.d (.slice .ref34_Gap v3), .d (.int .i64 v4)])] 2
noncomputable def rof_t (G : Nat → ASt E → Option (List (TV E))) (x0 : List Gap) : Option (List (TV E)) :=
  G 0 (rof_C0 x0 (0 : Int) (0 : Int) ([] : List Gap) (0 : Int))
theorem rof_e (G : Nat → ASt E → Option (List (TV E))) (x0 : List Gap) : runE rof_O rof_H G Try.f24 [⟨.l_ref34_Gap, x0⟩] = rof_t G x0 := by kernel_rfl
noncomputable def rof_t0 (G : Nat → ASt E → Option (List (TV E))) (v0 : List Gap) (v1 : Int) (v2 : Int) (v3 : List Gap) (v4 : Int) : Option (List (TV E)) :=
  bif (decide (v1 < (v0.length : Int))) then (bif (decide ((0 : Int) ≤ v1) && decide (v1 < (v0.length : Int))) then G 0 (rof_C0 v0 (w64 (v1 + (1 : Int))) v2 ((add (⟨v3, v4⟩ : Plan) (List.getD v0 (Int.toNat v1) (dflt .ref34_Gap))).l) ((add (⟨v3, v4⟩ : Plan) (List.getD v0 (Int.toNat v1) (dflt .ref34_Gap))).more)) else none) else some [⟨.ref34_Plan, (⟨v3, v4⟩ : Plan)⟩]
theorem rof_l0 (G : Nat → ASt E → Option (List (TV E))) (v0 : List Gap) (v1 : Int) (v2 : Int) (v3 : List Gap) (v4 : Int) : runL rof_O rof_H G Try.f24 0 (rof_C0 v0 v1 v2 v3 v4) = rof_t0 G v0 v1 v2 v3 v4 := by kernel_rfl
theorem rof_f : Try.prog.funcs[24]? = some Try.f24 := by kernel_rfl
theorem rof_n : (Try.f24.name == "runtime.NumGoroutine") = false := by kernel_rfl
theorem rof_b : Try.f24.body.isNone = false := by kernel_rfl
theorem rof_hO : OracleOk E rof_O := orac_ok (.cons radd_ok .nil) .nil
theorem rof_s0 {res : List (TV E)} {v0 : List Gap} {v1 : Int} {v2 : Int} {v3 : List Gap} {v4 : Int} (h : rof_t0 (Gr E Try.f24 res) v0 v1 v2 v3 v4 = some res) : Ev E Try.f24 res 0 (rof_C0 v0 v1 v2 v3 v4) := Ev.step rof_hO mix ((rof_l0 _ v0 v1 v2 v3 v4).trans h)
theorem rof_ok_of (h : ∀ (x0 : List Gap), len1000 x0 = true → rof_t (Gr E Try.f24 [⟨.ref34_Plan, ofL x0⟩]) x0 = some [⟨.ref34_Plan, ofL x0⟩]) : FnOk E rof_id rof_W := fn1_ok rof_hO mix rof_f rof_n rof_b (fun x0 hk => (rof_e _ x0).trans (h x0 hk))
theorem rof_loop (l : List Gap) (hl : l.length ≤ 1000) (z : Int) : ∀ (m i : Nat) (p : Plan), l.length - i = m → i ≤ l.length → Ev E Try.f24 [⟨.ref34_Plan, (l.drop i).foldl add p⟩] 0 (rof_C0 l i z p.l p.more) := by
  intro m
  induction m with
  | zero =>
    intro i p h1 h2
    refine rof_s0 ?_
    have e : l.drop i = [] := List.drop_eq_nil_of_le (by omega)
    simp only [rof_t0, Bool.cond_eq_ite, decide_eq_true_eq, e, List.foldl_nil]
    rw [if_neg (by omega)]
  | succ m ih =>
    intro i p h1 h2
    have hi : i < l.length := by omega
    refine rof_s0 ?_
    simp only [rof_t0, Bool.cond_eq_ite, decide_eq_true_eq, Bool.and_eq_true]
    rw [if_pos (by omega), if_pos (by omega), w64_id (by omega) (by omega)]
    have e1 : List.getD l (Int.toNat (i : Int)) (dflt .ref34_Gap) = l[i] := by rw [Int.toNat_natCast, List.getD, List.getElem?_eq_getElem hi]; rfl
    have e2 : (l.drop i).foldl add p = (l.drop (i + 1)).foldl add (add p l[i]) := by rw [← List.getElem_cons_drop hi, List.foldl_cons]
    rw [e1, e2]
    exact Gr_of (ih (i + 1) (add p l[i]) (by omega) (by omega))
theorem rof_ok : FnOk E rof_id rof_W := rof_ok_of fun l hl => by
  have hl : l.length ≤ 1000 := by simpa [len1000] using hl
  exact Gr_of (rof_loop l hl 0 l.length 0 ⟨[], 0⟩ (by omega) (by omega))

def leftStep (a : Int) (g : Gap) : Int := w64 (a + g.fail)
def left (p : Plan) : Int := p.l.foldl leftStep 0
def pl1000 (p : Plan) : Bool := decide (p.l.length ≤ 1000)
noncomputable def fleft_W : FnW E := fn1 (E := E) .fault_Plan .int pl1000 left
def fleft_id : FuncId := 31
noncomputable def fleft_O : Oracle E := orac [] []
noncomputable def fleft_H : Hint E := Hint.mk [(0, [3, 7, 8, 9])] [] []
noncomputable def fleft_C0 (v0 : Int) (v1 : List Gap) (v2 : Int) (v3 : Int) : ASt E := ASt.mk 19 [(3, .d (.int .i64 v0)), (7, .d (.slice .fault_Gap v1)), (8, .d (.int .i64 v2)), (9, .d (.int .i64 v3))] [] 0
noncomputable def fleft_t (G : Nat → ASt E → Option (List (TV E))) (x0 : Plan) : Option (List (TV E)) :=
  G 0 (fleft_C0 (0 : Int) x0.l (x0.l.length : Int) (0 : Int))
theorem fleft_e (G : Nat → ASt E → Option (List (TV E))) (x0 : Plan) : runE fleft_O fleft_H G Try.f31 [⟨.fault_Plan, x0⟩] = fleft_t G x0 := by kernel_rfl
noncomputable def fleft_t0 (G : Nat → ASt E → Option (List (TV E))) (v0 : Int) (v1 : List Gap) (v2 : Int) (v3 : Int) : Option (List (TV E)) :=
  bif (decide (v3 < v2)) then (bif (decide ((0 : Int) ≤ v3) && decide (v3 < (v1.length : Int))) then G 0 (fleft_C0 (w64 (v0 + (List.getD v1 (Int.toNat v3) (dflt .fault_Gap)).fail)) v1 v2 (w64 (v3 + (1 : Int)))) else none) else some [⟨.int, v0⟩]
theorem fleft_l0 (G : Nat → ASt E → Option (List (TV E))) (v0 : Int) (v1 : List Gap) (v2 : Int) (v3 : Int) : runL fleft_O fleft_H G Try.f31 0 (fleft_C0 v0 v1 v2 v3) = fleft_t0 G v0 v1 v2 v3 := by kernel_rfl
theorem fleft_f : Try.prog.funcs[31]? = some Try.f31 := by kernel_rfl
theorem fleft_n : (Try.f31.name == "runtime.NumGoroutine") = false := by kernel_rfl
theorem fleft_b : Try.f31.body.isNone = false := by kernel_rfl
theorem fleft_hO : OracleOk E fleft_O := orac_ok .nil .nil
theorem fleft_s0 {res : List (TV E)} {v0 : Int} {v1 : List Gap} {v2 : Int} {v3 : Int} (h : fleft_t0 (Gr E Try.f31 res) v0 v1 v2 v3 = some res) : Ev E Try.f31 res 0 (fleft_C0 v0 v1 v2 v3) := Ev.step fleft_hO mix ((fleft_l0 _ v0 v1 v2 v3).trans h)
theorem fleft_ok_of (h : ∀ (x0 : Plan), pl1000 x0 = true → fleft_t (Gr E Try.f31 [⟨.int, left x0⟩]) x0 = some [⟨.int, left x0⟩]) : FnOk E fleft_id fleft_W := fn1_ok fleft_hO mix fleft_f fleft_n fleft_b (fun x0 hk => (fleft_e _ x0).trans (h x0 hk))
theorem fleft_loop (l : List Gap) (hl : l.length ≤ 1000) : ∀ (m i : Nat) (a : Int), l.length - i = m → i ≤ l.length → Ev E Try.f31 [⟨.int, (l.drop i).foldl leftStep a⟩] 0 (fleft_C0 a l l.length i) := by
  intro m
  induction m with
  | zero =>
    intro i a h1 h2
    refine fleft_s0 ?_
    have e : l.drop i = [] := List.drop_eq_nil_of_le (by omega)
    simp only [fleft_t0, Bool.cond_eq_ite, decide_eq_true_eq, e, List.foldl_nil]
    rw [if_neg (by omega)]
  | succ m ih =>
    intro i a h1 h2
    have hi : i < l.length := by omega
    refine fleft_s0 ?_
    simp only [fleft_t0, Bool.cond_eq_ite, decide_eq_true_eq, Bool.and_eq_true]
    rw [if_pos (by omega), if_pos (by omega)]
    have e1 : List.getD l (Int.toNat (i : Int)) (dflt .fault_Gap) = l[i] := by rw [Int.toNat_natCast, List.getD, List.getElem?_eq_getElem hi]; rfl
    have e2 : (l.drop i).foldl leftStep a = (l.drop (i + 1)).foldl leftStep (w64 (a + l[i].fail)) := by rw [← List.getElem_cons_drop hi, List.foldl_cons]; rfl
    have e3 : w64 ((i : Int) + 1) = ((i + 1 : Nat) : Int) := w64_id (by omega) (by omega)
    rw [e1, e2, e3]
    exact Gr_of (ih (i + 1) _ (by omega) (by omega))
theorem fleft_ok : FnOk E fleft_id fleft_W := fleft_ok_of fun p hl => by
  have hl : p.l.length ≤ 1000 := by simpa [pl1000] using hl
  exact Gr_of (fleft_loop p.l hl p.l.length 0 0 (by omega) (by omega))

def longStep (s : Int × Int) (g : Gap) : Int × Int :=
  (if s.1 < w64 ((if 0 < g.skip then 0 else s.2) + g.fail) then w64 ((if 0 < g.skip then 0 else s.2) + g.fail) else s.1, w64 ((if 0 < g.skip then 0 else s.2) + g.fail))
def longest (p : Plan) : Int := (p.l.foldl longStep (0, 0)).1
noncomputable def flong_W : FnW E := fn1 (E := E) .fault_Plan .int pl1000 longest
def flong_id : FuncId := 32
noncomputable def flong_O : Oracle E := orac [] []
noncomputable def flong_H : Hint E := Hint.mk [(0, [3, 4, 8, 9, 10])] [] []
noncomputable def flong_C0 (v0 : Int) (v1 : Int) (v2 : List Gap) (v3 : Int) (v4 : Int) : ASt E := ASt.mk 26 [(3, .d (.int .i64 v0)), (4, .d (.int .i64 v1)), (8, .d (.slice .fault_Gap v2)), (9, .d (.int .i64 v3)), (10, .d (.int .i64 v4))] [] 0
noncomputable def flong_t (G : Nat → ASt E → Option (List (TV E))) (x0 : Plan) : Option (List (TV E)) :=
  G 0 (flong_C0 (0 : Int) (0 : Int) x0.l (x0.l.length : Int) (0 : Int))
theorem flong_e (G : Nat → ASt E → Option (List (TV E))) (x0 : Plan) : runE flong_O flong_H G Try.f32 [⟨.fault_Plan, x0⟩] = flong_t G x0 := by kernel_rfl
noncomputable def flong_t0 (G : Nat → ASt E → Option (List (TV E))) (v0 : Int) (v1 : Int) (v2 : List Gap) (v3 : Int) (v4 : Int) : Option (List (TV E)) :=
  bif (decide (v4 < v3)) then (bif (decide ((0 : Int) ≤ v4) && decide (v4 < (v2.length : Int))) then (bif (decide ((0 : Int) < (List.getD v2 (Int.toNat v4) (dflt .fault_Gap)).skip)) then G 0 (flong_C0 (bif decide (v0 < (w64 ((0 : Int) + (List.getD v2 (Int.toNat v4) (dflt .fault_Gap)).fail))) then (w64 ((0 : Int) + (List.getD v2 (Int.toNat v4) (dflt .fault_Gap)).fail)) else v0) (w64 ((0 : Int) + (List.getD v2 (Int.toNat v4) (dflt .fault_Gap)).fail)) v2 v3 (w64 (v4 + (1 : Int)))) else G 0 (flong_C0 (bif decide (v0 < (w64 (v1 + (List.getD v2 (Int.toNat v4) (dflt .fault_Gap)).fail))) then (w64 (v1 + (List.getD v2 (Int.toNat v4) (dflt .fault_Gap)).fail)) else v0) (w64 (v1 + (List.getD v2 (Int.toNat v4) (dflt .fault_Gap)).fail)) v2 v3 (w64 (v4 + (1 : Int))))) else none) else some [⟨.int, v0⟩]
theorem flong_l0 (G : Nat → ASt E → Option (List (TV E))) (v0 : Int) (v1 : Int) (v2 : List Gap) (v3 : Int) (v4 : Int) : runL flong_O flong_H G Try.f32 0 (flong_C0 v0 v1 v2 v3 v4) = flong_t0 G v0 v1 v2 v3 v4 := by kernel_rfl
theorem flong_f : Try.prog.funcs[32]? = some Try.f32 := by kernel_rfl
theorem flong_n : (Try.f32.name == "runtime.NumGoroutine") = false := by kernel_rfl
theorem flong_b : Try.f32.body.isNone = false := by kernel_rfl
theorem flong_hO : OracleOk E flong_O := orac_ok .nil .nil
theorem flong_s0 {res : List (TV E)} {v0 : Int} {v1 : Int} {v2 : List Gap} {v3 : Int} {v4 : Int} (h : flong_t0 (Gr E Try.f32 res) v0 v1 v2 v3 v4 = some res) : Ev E Try.f32 res 0 (flong_C0 v0 v1 v2 v3 v4) := Ev.step flong_hO mix ((flong_l0 _ v0 v1 v2 v3 v4).trans h)
theorem flong_ok_of (h : ∀ (x0 : Plan), pl1000 x0 = true → flong_t (Gr E Try.f32 [⟨.int, longest x0⟩]) x0 = some [⟨.int, longest x0⟩]) : FnOk E flong_id flong_W := fn1_ok flong_hO mix flong_f flong_n flong_b (fun x0 hk => (flong_e _ x0).trans (h x0 hk))
theorem flong_loop (l : List Gap) (hl : l.length ≤ 1000) : ∀ (m i : Nat) (s : Int × Int), l.length - i = m → i ≤ l.length → Ev E Try.f32 [⟨.int, ((l.drop i).foldl longStep s).1⟩] 0 (flong_C0 s.1 s.2 l l.length i) := by
  intro m
  induction m with
  | zero =>
    intro i s h1 h2
    refine flong_s0 ?_
    have e : l.drop i = [] := List.drop_eq_nil_of_le (by omega)
    simp only [flong_t0, Bool.cond_eq_ite, decide_eq_true_eq, e, List.foldl_nil]
    rw [if_neg (by omega)]
  | succ m ih =>
    intro i s h1 h2
    have hi : i < l.length := by omega
    refine flong_s0 ?_
    simp only [flong_t0, Bool.cond_eq_ite, decide_eq_true_eq, Bool.and_eq_true]
    rw [if_pos (by omega), if_pos (by omega)]
    have e1 : List.getD l (Int.toNat (i : Int)) (dflt .fault_Gap) = l[i] := by rw [Int.toNat_natCast, List.getD, List.getElem?_eq_getElem hi]; rfl
    have e2 : (l.drop i).foldl longStep s = (l.drop (i + 1)).foldl longStep (longStep s l[i]) := by rw [← List.getElem_cons_drop hi, List.foldl_cons]
    have e3 : w64 ((i : Int) + 1) = ((i + 1 : Nat) : Int) := w64_id (by omega) (by omega)
    have h := ih (i + 1) (longStep s l[i]) (by omega) (by omega)
    rw [e1, e2, e3]
    by_cases hs : 0 < l[i].skip
    · rw [if_pos hs]
      simp only [longStep, if_pos hs] at h ⊢
      exact Gr_of h
    · rw [if_neg hs]
      simp only [longStep, if_neg hs] at h ⊢
      exact Gr_of h
theorem flong_ok : FnOk E flong_id flong_W := flong_ok_of fun p hl => by
  have hl : p.l.length ≤ 1000 := by simpa [pl1000] using hl
  exact Gr_of (flong_loop p.l hl p.l.length 0 (0, 0) (by omega) (by omega))

def smallG (g : Gap) : Bool := decide (g.skip ≤ 30) && decide (g.fail ≤ 30)
def small (l : List Gap) : Bool := decide (l.length ≤ 40) && l.all smallG
noncomputable def lsmall_W : FnW E := fn1 (E := E) .l_ref34_Gap .bool (fun _ => true) small
def lsmall_id : FuncId := 22
noncomputable def lsmall_O : Oracle E := orac [] []
noncomputable def lsmall_H : Hint E := Hint.mk [(0, [0, 3])] [] []
noncomputable def lsmall_C0 (v0 : List Gap) (v1 : Int) : ASt E := ASt.mk 27 [(0, .d (.slice .ref34_Gap v0)), (3, .d (.int .i64 v1))] [] 0
noncomputable def lsmall_t (G : Nat → ASt E → Option (List (TV E))) (x0 : List Gap) : Option (List (TV E)) :=
  bif (decide ((40 : Int) < (x0.length : Int))) then some [⟨.bool, false⟩] else G 0 (lsmall_C0 x0 (0 : Int))
theorem lsmall_e (G : Nat → ASt E → Option (List (TV E))) (x0 : List Gap) : runE lsmall_O lsmall_H G Try.f22 [⟨.l_ref34_Gap, x0⟩] = lsmall_t G x0 := by kernel_rfl
noncomputable def lsmall_t0 (G : Nat → ASt E → Option (List (TV E))) (v0 : List Gap) (v1 : Int) : Option (List (TV E)) :=
  bif (decide (v1 < (v0.length : Int))) then (bif (decide ((0 : Int) ≤ v1) && decide (v1 < (v0.length : Int))) then (bif ((decide ((0 : Int) ≤ v1) && decide (v1 < (v0.length : Int))) || !(!(decide ((30 : Int) < (List.getD v0 (Int.toNat v1) (dflt .ref34_Gap)).skip)))) then (bif (bif (decide ((30 : Int) < (List.getD v0 (Int.toNat v1) (dflt .ref34_Gap)).skip)) then true else (decide ((30 : Int) < (List.getD v0 (Int.toNat v1) (dflt .ref34_Gap)).fail))) then some [⟨.bool, false⟩] else G 0 (lsmall_C0 v0 (w64 (v1 + (1 : Int))))) else none) else none) else some [⟨.bool, true⟩]
theorem lsmall_l0 (G : Nat → ASt E → Option (List (TV E))) (v0 : List Gap) (v1 : Int) : runL lsmall_O lsmall_H G Try.f22 0 (lsmall_C0 v0 v1) = lsmall_t0 G v0 v1 := by kernel_rfl
theorem lsmall_f : Try.prog.funcs[22]? = some Try.f22 := by kernel_rfl
theorem lsmall_n : (Try.f22.name == "runtime.NumGoroutine") = false := by kernel_rfl
theorem lsmall_b : Try.f22.body.isNone = false := by kernel_rfl
theorem lsmall_hO : OracleOk E lsmall_O := orac_ok .nil .nil
theorem lsmall_s0 {res : List (TV E)} {v0 : List Gap} {v1 : Int} (h : lsmall_t0 (Gr E Try.f22 res) v0 v1 = some res) : Ev E Try.f22 res 0 (lsmall_C0 v0 v1) := Ev.step lsmall_hO mix ((lsmall_l0 _ v0 v1).trans h)
theorem lsmall_ok_of (h : ∀ (x0 : List Gap), lsmall_t (Gr E Try.f22 [⟨.bool, small x0⟩]) x0 = some [⟨.bool, small x0⟩]) : FnOk E lsmall_id lsmall_W := fn1_ok lsmall_hO mix lsmall_f lsmall_n lsmall_b (fun x0 _ => (lsmall_e _ x0).trans (h x0))
theorem lsmall_loop (l : List Gap) (hl : l.length ≤ 40) : ∀ (m i : Nat), l.length - i = m → i ≤ l.length → Ev E Try.f22 [⟨.bool, (l.drop i).all smallG⟩] 0 (lsmall_C0 l i) := by
  intro m
  induction m with
  | zero =>
    intro i h1 h2
    refine lsmall_s0 ?_
    have e : l.drop i = [] := List.drop_eq_nil_of_le (by omega)
    simp only [lsmall_t0, Bool.cond_eq_ite, decide_eq_true_eq, e, List.all_nil]
    rw [if_neg (by omega)]
  | succ m ih =>
    intro i h1 h2
    have hi : i < l.length := by omega
    refine lsmall_s0 ?_
    have hb0 : decide ((0 : Int) ≤ (i : Int)) = true := by simp only [decide_eq_true_eq]; omega
    have hb1 : decide ((i : Int) < (l.length : Int)) = true := by simp only [decide_eq_true_eq]; omega
    have e1 : List.getD l (Int.toNat (i : Int)) (dflt .ref34_Gap) = l[i] := by rw [Int.toNat_natCast, List.getD, List.getElem?_eq_getElem hi]; rfl
    have e2 : (l.drop i).all smallG = (smallG l[i] && (l.drop (i + 1)).all smallG) := by rw [← List.getElem_cons_drop hi, List.all_cons]
    have e3 : w64 ((i : Int) + 1) = ((i + 1 : Nat) : Int) := w64_id (by omega) (by omega)
    have h := ih (i + 1) (by omega) (by omega)
    simp only [lsmall_t0, hb0, hb1, Bool.true_and, Bool.true_or, cond_true, e1, e3]
    rw [e2]
    by_cases h1 : l[i].skip ≤ 30
    · have n1 : decide (30 < l[i].skip) = false := by simp only [decide_eq_false_iff_not]; omega
      by_cases h2 : l[i].fail ≤ 30
      · have n2 : decide (30 < l[i].fail) = false := by simp only [decide_eq_false_iff_not]; omega
        have e4 : smallG l[i] = true := by simp [smallG, h1, h2]
        simp only [n1, n2, cond_false, e4, Bool.true_and]
        exact Gr_of h
      · have n2 : decide (30 < l[i].fail) = true := by simp only [decide_eq_true_eq]; omega
        have e4 : smallG l[i] = false := by simp [smallG, h2]
        simp only [n1, n2, cond_false, cond_true, e4, Bool.false_and]
    · have n1 : decide (30 < l[i].skip) = true := by simp only [decide_eq_true_eq]; omega
      have e4 : smallG l[i] = false := by simp [smallG, h1]
      simp only [n1, cond_true, e4, Bool.false_and]
theorem lsmall_ok : FnOk E lsmall_id lsmall_W := lsmall_ok_of fun l => by
  simp only [lsmall_t, Bool.cond_eq_ite, decide_eq_true_eq]
  by_cases h : l.length ≤ 40
  · rw [if_neg (by omega)]
    have e : small l = l.all smallG := by simp [small, h]
    rw [e]
    exact Gr_of (lsmall_loop l h l.length 0 (by omega) (by omega))
  · rw [if_pos (by omega)]
    have e : small l = false := by simp [small, h]
    rw [e]

/-! ### Chapter 34's example -/
noncomputable def lawake_W : FnW E := fn0 (E := E) .bool true true
def lawake_id : FuncId := 23
noncomputable def lawake_O : Oracle E := orac [(31, fleft_W), (32, flong_W), (30, fof_W), (29, frow_W)] []
noncomputable def lawake_H : Hint E := Hint.mk [] [] []
noncomputable def lawake_t (_G : Nat → ASt E → Option (List (TV E)))  : Option (List (TV E)) :=
  bif (len1000 ([(⟨(2 : Int), (1 : Int)⟩ : Gap), (⟨(0 : Int), (2 : Int)⟩ : Gap), (⟨(3 : Int), (1 : Int)⟩ : Gap)] : List Gap)) then (bif ((fun p _ => okP p) (ofL ([(⟨(2 : Int), (1 : Int)⟩ : Gap), (⟨(0 : Int), (2 : Int)⟩ : Gap), (⟨(3 : Int), (1 : Int)⟩ : Gap)] : List Gap)) (10 : Int)) then (bif (pl1000 (ofL ([(⟨(2 : Int), (1 : Int)⟩ : Gap), (⟨(0 : Int), (2 : Int)⟩ : Gap), (⟨(3 : Int), (1 : Int)⟩ : Gap)] : List Gap))) then (bif ((pl1000 (ofL ([(⟨(2 : Int), (1 : Int)⟩ : Gap), (⟨(0 : Int), (2 : Int)⟩ : Gap), (⟨(3 : Int), (1 : Int)⟩ : Gap)] : List Gap))) || !((left (ofL ([(⟨(2 : Int), (1 : Int)⟩ : Gap), (⟨(0 : Int), (2 : Int)⟩ : Gap), (⟨(3 : Int), (1 : Int)⟩ : Gap)] : List Gap))) == (4 : Int))) then (bif ((decide ((0 : Int) ≤ (1 : Int)) && decide ((1 : Int) < ((row (ofL ([(⟨(2 : Int), (1 : Int)⟩ : Gap), (⟨(0 : Int), (2 : Int)⟩ : Gap), (⟨(3 : Int), (1 : Int)⟩ : Gap)] : List Gap)) (10 : Int)).length : Int))) || !(bif (bif ((left (ofL ([(⟨(2 : Int), (1 : Int)⟩ : Gap), (⟨(0 : Int), (2 : Int)⟩ : Gap), (⟨(3 : Int), (1 : Int)⟩ : Gap)] : List Gap))) == (4 : Int)) then ((longest (ofL ([(⟨(2 : Int), (1 : Int)⟩ : Gap), (⟨(0 : Int), (2 : Int)⟩ : Gap), (⟨(3 : Int), (1 : Int)⟩ : Gap)] : List Gap))) == (3 : Int)) else false) then (((row (ofL ([(⟨(2 : Int), (1 : Int)⟩ : Gap), (⟨(0 : Int), (2 : Int)⟩ : Gap), (⟨(3 : Int), (1 : Int)⟩ : Gap)] : List Gap)) (10 : Int)).length : Int) == (10 : Int)) else false)) then (bif ((decide ((0 : Int) ≤ (2 : Int)) && decide ((2 : Int) < ((row (ofL ([(⟨(2 : Int), (1 : Int)⟩ : Gap), (⟨(0 : Int), (2 : Int)⟩ : Gap), (⟨(3 : Int), (1 : Int)⟩ : Gap)] : List Gap)) (10 : Int)).length : Int))) || !(bif (bif (bif ((left (ofL ([(⟨(2 : Int), (1 : Int)⟩ : Gap), (⟨(0 : Int), (2 : Int)⟩ : Gap), (⟨(3 : Int), (1 : Int)⟩ : Gap)] : List Gap))) == (4 : Int)) then ((longest (ofL ([(⟨(2 : Int), (1 : Int)⟩ : Gap), (⟨(0 : Int), (2 : Int)⟩ : Gap), (⟨(3 : Int), (1 : Int)⟩ : Gap)] : List Gap))) == (3 : Int)) else false) then (((row (ofL ([(⟨(2 : Int), (1 : Int)⟩ : Gap), (⟨(0 : Int), (2 : Int)⟩ : Gap), (⟨(3 : Int), (1 : Int)⟩ : Gap)] : List Gap)) (10 : Int)).length : Int) == (10 : Int)) else false) then (!(List.getD (row (ofL ([(⟨(2 : Int), (1 : Int)⟩ : Gap), (⟨(0 : Int), (2 : Int)⟩ : Gap), (⟨(3 : Int), (1 : Int)⟩ : Gap)] : List Gap)) (10 : Int)) (Int.toNat (1 : Int)) (dflt .bool))) else false)) then (bif ((decide ((0 : Int) ≤ (4 : Int)) && decide ((4 : Int) < ((row (ofL ([(⟨(2 : Int), (1 : Int)⟩ : Gap), (⟨(0 : Int), (2 : Int)⟩ : Gap), (⟨(3 : Int), (1 : Int)⟩ : Gap)] : List Gap)) (10 : Int)).length : Int))) || !(bif (bif (bif (bif ((left (ofL ([(⟨(2 : Int), (1 : Int)⟩ : Gap), (⟨(0 : Int), (2 : Int)⟩ : Gap), (⟨(3 : Int), (1 : Int)⟩ : Gap)] : List Gap))) == (4 : Int)) then ((longest (ofL ([(⟨(2 : Int), (1 : Int)⟩ : Gap), (⟨(0 : Int), (2 : Int)⟩ : Gap), (⟨(3 : Int), (1 : Int)⟩ : Gap)] : List Gap))) == (3 : Int)) else false) then (((row (ofL ([(⟨(2 : Int), (1 : Int)⟩ : Gap), (⟨(0 : Int), (2 : Int)⟩ : Gap), (⟨(3 : Int), (1 : Int)⟩ : Gap)] : List Gap)) (10 : Int)).length : Int) == (10 : Int)) else false) then (!(List.getD (row (ofL ([(⟨(2 : Int), (1 : Int)⟩ : Gap), (⟨(0 : Int), (2 : Int)⟩ : Gap), (⟨(3 : Int), (1 : Int)⟩ : Gap)] : List Gap)) (10 : Int)) (Int.toNat (1 : Int)) (dflt .bool))) else false) then (List.getD (row (ofL ([(⟨(2 : Int), (1 : Int)⟩ : Gap), (⟨(0 : Int), (2 : Int)⟩ : Gap), (⟨(3 : Int), (1 : Int)⟩ : Gap)] : List Gap)) (10 : Int)) (Int.toNat (2 : Int)) (dflt .bool)) else false)) then (bif ((decide ((0 : Int) ≤ (5 : Int)) && decide ((5 : Int) < ((row (ofL ([(⟨(2 : Int), (1 : Int)⟩ : Gap), (⟨(0 : Int), (2 : Int)⟩ : Gap), (⟨(3 : Int), (1 : Int)⟩ : Gap)] : List Gap)) (10 : Int)).length : Int))) || !(bif (bif (bif (bif (bif ((left (ofL ([(⟨(2 : Int), (1 : Int)⟩ : Gap), (⟨(0 : Int), (2 : Int)⟩ : Gap), (⟨(3 : Int), (1 : Int)⟩ : Gap)] : List Gap))) == (4 : Int)) then ((longest (ofL ([(⟨(2 : Int), (1 : Int)⟩ : Gap), (⟨(0 : Int), (2 : Int)⟩ : Gap), (⟨(3 : Int), (1 : Int)⟩ : Gap)] : List Gap))) == (3 : Int)) else false) then (((row (ofL ([(⟨(2 : Int), (1 : Int)⟩ : Gap), (⟨(0 : Int), (2 : Int)⟩ : Gap), (⟨(3 : Int), (1 : Int)⟩ : Gap)] : List Gap)) (10 : Int)).length : Int) == (10 : Int)) else false) then (!(List.getD (row (ofL ([(⟨(2 : Int), (1 : Int)⟩ : Gap), (⟨(0 : Int), (2 : Int)⟩ : Gap), (⟨(3 : Int), (1 : Int)⟩ : Gap)] : List Gap)) (10 : Int)) (Int.toNat (1 : Int)) (dflt .bool))) else false) then (List.getD (row (ofL ([(⟨(2 : Int), (1 : Int)⟩ : Gap), (⟨(0 : Int), (2 : Int)⟩ : Gap), (⟨(3 : Int), (1 : Int)⟩ : Gap)] : List Gap)) (10 : Int)) (Int.toNat (2 : Int)) (dflt .bool)) else false) then (List.getD (row (ofL ([(⟨(2 : Int), (1 : Int)⟩ : Gap), (⟨(0 : Int), (2 : Int)⟩ : Gap), (⟨(3 : Int), (1 : Int)⟩ : Gap)] : List Gap)) (10 : Int)) (Int.toNat (4 : Int)) (dflt .bool)) else false)) then (bif ((decide ((0 : Int) ≤ (8 : Int)) && decide ((8 : Int) < ((row (ofL ([(⟨(2 : Int), (1 : Int)⟩ : Gap), (⟨(0 : Int), (2 : Int)⟩ : Gap), (⟨(3 : Int), (1 : Int)⟩ : Gap)] : List Gap)) (10 : Int)).length : Int))) || !(bif (bif (bif (bif (bif (bif ((left (ofL ([(⟨(2 : Int), (1 : Int)⟩ : Gap), (⟨(0 : Int), (2 : Int)⟩ : Gap), (⟨(3 : Int), (1 : Int)⟩ : Gap)] : List Gap))) == (4 : Int)) then ((longest (ofL ([(⟨(2 : Int), (1 : Int)⟩ : Gap), (⟨(0 : Int), (2 : Int)⟩ : Gap), (⟨(3 : Int), (1 : Int)⟩ : Gap)] : List Gap))) == (3 : Int)) else false) then (((row (ofL ([(⟨(2 : Int), (1 : Int)⟩ : Gap), (⟨(0 : Int), (2 : Int)⟩ : Gap), (⟨(3 : Int), (1 : Int)⟩ : Gap)] : List Gap)) (10 : Int)).length : Int) == (10 : Int)) else false) then (!(List.getD (row (ofL ([(⟨(2 : Int), (1 : Int)⟩ : Gap), (⟨(0 : Int), (2 : Int)⟩ : Gap), (⟨(3 : Int), (1 : Int)⟩ : Gap)] : List Gap)) (10 : Int)) (Int.toNat (1 : Int)) (dflt .bool))) else false) then (List.getD (row (ofL ([(⟨(2 : Int), (1 : Int)⟩ : Gap), (⟨(0 : Int), (2 : Int)⟩ : Gap), (⟨(3 : Int), (1 : Int)⟩ : Gap)] : List Gap)) (10 : Int)) (Int.toNat (2 : Int)) (dflt .bool)) else false) then (List.getD (row (ofL ([(⟨(2 : Int), (1 : Int)⟩ : Gap), (⟨(0 : Int), (2 : Int)⟩ : Gap), (⟨(3 : Int), (1 : Int)⟩ : Gap)] : List Gap)) (10 : Int)) (Int.toNat (4 : Int)) (dflt .bool)) else false) then (!(List.getD (row (ofL ([(⟨(2 : Int), (1 : Int)⟩ : Gap), (⟨(0 : Int), (2 : Int)⟩ : Gap), (⟨(3 : Int), (1 : Int)⟩ : Gap)] : List Gap)) (10 : Int)) (Int.toNat (5 : Int)) (dflt .bool))) else false)) then (bif ((decide ((0 : Int) ≤ (9 : Int)) && decide ((9 : Int) < ((row (ofL ([(⟨(2 : Int), (1 : Int)⟩ : Gap), (⟨(0 : Int), (2 : Int)⟩ : Gap), (⟨(3 : Int), (1 : Int)⟩ : Gap)] : List Gap)) (10 : Int)).length : Int))) || !(bif (bif (bif (bif (bif (bif (bif ((left (ofL ([(⟨(2 : Int), (1 : Int)⟩ : Gap), (⟨(0 : Int), (2 : Int)⟩ : Gap), (⟨(3 : Int), (1 : Int)⟩ : Gap)] : List Gap))) == (4 : Int)) then ((longest (ofL ([(⟨(2 : Int), (1 : Int)⟩ : Gap), (⟨(0 : Int), (2 : Int)⟩ : Gap), (⟨(3 : Int), (1 : Int)⟩ : Gap)] : List Gap))) == (3 : Int)) else false) then (((row (ofL ([(⟨(2 : Int), (1 : Int)⟩ : Gap), (⟨(0 : Int), (2 : Int)⟩ : Gap), (⟨(3 : Int), (1 : Int)⟩ : Gap)] : List Gap)) (10 : Int)).length : Int) == (10 : Int)) else false) then (!(List.getD (row (ofL ([(⟨(2 : Int), (1 : Int)⟩ : Gap), (⟨(0 : Int), (2 : Int)⟩ : Gap), (⟨(3 : Int), (1 : Int)⟩ : Gap)] : List Gap)) (10 : Int)) (Int.toNat (1 : Int)) (dflt .bool))) else false) then (List.getD (row (ofL ([(⟨(2 : Int), (1 : Int)⟩ : Gap), (⟨(0 : Int), (2 : Int)⟩ : Gap), (⟨(3 : Int), (1 : Int)⟩ : Gap)] : List Gap)) (10 : Int)) (Int.toNat (2 : Int)) (dflt .bool)) else false) then (List.getD (row (ofL ([(⟨(2 : Int), (1 : Int)⟩ : Gap), (⟨(0 : Int), (2 : Int)⟩ : Gap), (⟨(3 : Int), (1 : Int)⟩ : Gap)] : List Gap)) (10 : Int)) (Int.toNat (4 : Int)) (dflt .bool)) else false) then (!(List.getD (row (ofL ([(⟨(2 : Int), (1 : Int)⟩ : Gap), (⟨(0 : Int), (2 : Int)⟩ : Gap), (⟨(3 : Int), (1 : Int)⟩ : Gap)] : List Gap)) (10 : Int)) (Int.toNat (5 : Int)) (dflt .bool))) else false) then (List.getD (row (ofL ([(⟨(2 : Int), (1 : Int)⟩ : Gap), (⟨(0 : Int), (2 : Int)⟩ : Gap), (⟨(3 : Int), (1 : Int)⟩ : Gap)] : List Gap)) (10 : Int)) (Int.toNat (8 : Int)) (dflt .bool)) else false)) then some [⟨.bool, (bif (bif (bif (bif (bif (bif (bif (bif ((left (ofL ([(⟨(2 : Int), (1 : Int)⟩ : Gap), (⟨(0 : Int), (2 : Int)⟩ : Gap), (⟨(3 : Int), (1 : Int)⟩ : Gap)] : List Gap))) == (4 : Int)) then ((longest (ofL ([(⟨(2 : Int), (1 : Int)⟩ : Gap), (⟨(0 : Int), (2 : Int)⟩ : Gap), (⟨(3 : Int), (1 : Int)⟩ : Gap)] : List Gap))) == (3 : Int)) else false) then (((row (ofL ([(⟨(2 : Int), (1 : Int)⟩ : Gap), (⟨(0 : Int), (2 : Int)⟩ : Gap), (⟨(3 : Int), (1 : Int)⟩ : Gap)] : List Gap)) (10 : Int)).length : Int) == (10 : Int)) else false) then (!(List.getD (row (ofL ([(⟨(2 : Int), (1 : Int)⟩ : Gap), (⟨(0 : Int), (2 : Int)⟩ : Gap), (⟨(3 : Int), (1 : Int)⟩ : Gap)] : List Gap)) (10 : Int)) (Int.toNat (1 : Int)) (dflt .bool))) else false) then (List.getD (row (ofL ([(⟨(2 : Int), (1 : Int)⟩ : Gap), (⟨(0 : Int), (2 : Int)⟩ : Gap), (⟨(3 : Int), (1 : Int)⟩ : Gap)] : List Gap)) (10 : Int)) (Int.toNat (2 : Int)) (dflt .bool)) else false) then (List.getD (row (ofL ([(⟨(2 : Int), (1 : Int)⟩ : Gap), (⟨(0 : Int), (2 : Int)⟩ : Gap), (⟨(3 : Int), (1 : Int)⟩ : Gap)] : List Gap)) (10 : Int)) (Int.toNat (4 : Int)) (dflt .bool)) else false) then (!(List.getD (row (ofL ([(⟨(2 : Int), (1 : Int)⟩ : Gap), (⟨(0 : Int), (2 : Int)⟩ : Gap), (⟨(3 : Int), (1 : Int)⟩ : Gap)] : List Gap)) (10 : Int)) (Int.toNat (5 : Int)) (dflt .bool))) else false) then (List.getD (row (ofL ([(⟨(2 : Int), (1 : Int)⟩ : Gap), (⟨(0 : Int), (2 : Int)⟩ : Gap), (⟨(3 : Int), (1 : Int)⟩ : Gap)] : List Gap)) (10 : Int)) (Int.toNat (8 : Int)) (dflt .bool)) else false) then (!(List.getD (row (ofL ([(⟨(2 : Int), (1 : Int)⟩ : Gap), (⟨(0 : Int), (2 : Int)⟩ : Gap), (⟨(3 : Int), (1 : Int)⟩ : Gap)] : List Gap)) (10 : Int)) (Int.toNat (9 : Int)) (dflt .bool))) else false)⟩] else none) else none) else none) else none) else none) else none) else none) else none) else none) else none
theorem lawake_e (G : Nat → ASt E → Option (List (TV E)))  : runE lawake_O lawake_H G Try.f23 [] = lawake_t G  := by kernel_rfl
theorem lawake_f : Try.prog.funcs[23]? = some Try.f23 := by kernel_rfl
theorem lawake_n : (Try.f23.name == "runtime.NumGoroutine") = false := by kernel_rfl
theorem lawake_b : Try.f23.body.isNone = false := by kernel_rfl
theorem lawake_hO : OracleOk E lawake_O := orac_ok (.cons fleft_ok (.cons flong_ok (.cons fof_ok (.cons frow_ok .nil)))) .nil
theorem lawake_ok_of (h : lawake_t (Gr E Try.f23 [⟨.bool, true ⟩])  = some [⟨.bool, true ⟩]) : FnOk E lawake_id lawake_W := fn0_ok lawake_hO mix lawake_f lawake_n lawake_b (fun _ => (lawake_e _).trans h)
theorem lawake_ok : FnOk E lawake_id lawake_W := lawake_ok_of (by kernel_rfl)

/-! ### Plans as the laws make them -/
def okQ (b : Int) (p : Plan) : Prop := (0 ≤ p.more ∧ p.more ≤ b ∧ p.l.length ≤ 32) ∧ ∀ g ∈ p.l, 0 ≤ g.skip ∧ g.skip ≤ b ∧ 1 ≤ g.fail ∧ g.fail ≤ 1000
theorem okQ_okP {b : Int} {p : Plan} (h : okQ b p) (hb : b ≤ 1000000) : okP p = true := by
  rw [okP_iff]
  obtain ⟨⟨h1, h2, h3⟩, h4⟩ := h
  exact ⟨⟨h1, by omega, h3⟩, fun g hg => by obtain ⟨a1, a2, a3, a4⟩ := h4 g hg; exact ⟨a1, by omega, a3, a4⟩⟩
theorem okQ_next {b : Int} (hb : 0 ≤ b) {p : Plan} (h : okQ b p) : okQ b (next1 p) := by
  obtain ⟨l, more⟩ := p
  obtain ⟨⟨h1, h2, h3⟩, h4⟩ := h
  simp only at h1 h2 h3 h4
  cases l with
  | nil =>
    simp only [next1, next]
    refine ⟨⟨?_, ?_, by simp⟩, fun g hg => by simp at hg⟩ <;> simp only <;> split <;> omega
  | cons g t =>
    have hg := h4 g List.mem_cons_self
    have ht : ∀ x ∈ t, 0 ≤ x.skip ∧ x.skip ≤ b ∧ 1 ≤ x.fail ∧ x.fail ≤ 1000 := fun x hx => h4 x (List.mem_cons_of_mem _ hx)
    simp only [List.length_cons] at h3
    simp only [next1, next]
    split
    · refine ⟨⟨h1, h2, by simp only [List.length_cons]; omega⟩, fun x hx => ?_⟩
      cases hx with
      | head => exact ⟨by simp only; omega, by simp only; omega, hg.2.2⟩
      | tail _ hx => exact ht x hx
    · simp only
      split
      · exact ⟨⟨h1, h2, by simp only; omega⟩, ht⟩
      · refine ⟨⟨h1, h2, by simp only [List.length_cons]; omega⟩, fun x hx => ?_⟩
        cases hx with
        | head => exact ⟨by simp, by simpa using hb, by simp only; omega, by simp only; omega⟩
        | tail _ hx => exact ht x hx
theorem okQ_add {b : Int} (hb0 : 0 ≤ b) (hb : b ≤ 1000000) {p : Plan} {g : Gap} (h : okQ b p) : okQ (b + 1000) (add p g) := by
  obtain ⟨⟨h1, h2, h3⟩, h4⟩ := h
  have hs := near_le g.skip
  have hf := near_le g.fail
  have up : ∀ x ∈ p.l, 0 ≤ x.skip ∧ x.skip ≤ b + 1000 ∧ 1 ≤ x.fail ∧ x.fail ≤ 1000 := fun x hx => by obtain ⟨a1, a2, a3, a4⟩ := h4 x hx; exact ⟨a1, by omega, a3, a4⟩
  unfold add
  split
  · exact ⟨⟨h1, by omega, h3⟩, up⟩
  · rw [w64_id (by omega) (by omega)]
    split
    · exact ⟨⟨by simp only; omega, by simp only; omega, h3⟩, up⟩
    · refine ⟨⟨by simp, by simp only; omega, by simp only [List.length_append, List.length_cons, List.length_nil]; omega⟩, fun x hx => ?_⟩
      rcases List.mem_append.1 hx with hx | hx
      · exact up x hx
      · simp only [List.mem_singleton] at hx
        subst hx
        exact ⟨by simp only; omega, by simp only; omega, by simp only; omega, by simp only; omega⟩
theorem okQ_fold : ∀ (l : List Gap) (b : Int) (p : Plan), 0 ≤ b → okQ b p → b + 1000 * l.length ≤ 1000000 → okQ (b + 1000 * l.length) (l.foldl add p)
  | [], b, p, _, h, _ => by simpa using h
  | g :: l, b, p, hb, h, hl => by
    simp only [List.length_cons, List.foldl_cons] at hl ⊢
    have := okQ_fold l (b + 1000) (add p g) (by omega) (okQ_add hb (by omega) h) (by omega)
    have e : b + 1000 + 1000 * (l.length : Int) = b + 1000 * ((l.length + 1 : Nat) : Int) := by omega
    rw [← e]
    exact this
theorem okQ_of {l : List Gap} (h : l.length ≤ 40) : okQ 40000 (ofL l) := by
  have := okQ_fold l 0 ⟨[], 0⟩ (by omega) ⟨⟨by simp, by simp, by simp⟩, fun g hg => by simp at hg⟩ (by omega)
  change okQ _ (ofL l) at this
  obtain ⟨⟨h1, h2, h3⟩, h4⟩ := this
  exact ⟨⟨h1, by omega, h3⟩, fun g hg => by obtain ⟨a1, a2, a3, a4⟩ := h4 g hg; exact ⟨a1, by omega, a3, a4⟩⟩
theorem okQ_mono {b c : Int} {p : Plan} (h : okQ b p) (hc : b ≤ c) : okQ c p := by
  obtain ⟨⟨h1, h2, h3⟩, h4⟩ := h
  exact ⟨⟨h1, by omega, h3⟩, fun g hg => by obtain ⟨a1, a2, a3, a4⟩ := h4 g hg; exact ⟨a1, by omega, a3, a4⟩⟩
theorem small_len {l : List Gap} (h : small l = true) : l.length ≤ 40 := by
  simp only [small, Bool.and_eq_true, decide_eq_true_eq] at h
  exact h.1

def iter : Nat → Plan → Plan
  | 0, p => p
  | n + 1, p => iter n (next1 p)
theorem rowN_len : ∀ (n : Nat) (p : Plan), (rowN n p).length = n
  | 0, _ => rfl
  | n + 1, p => by simp [rowN, rowN_len n]
theorem rowN_at : ∀ (n i : Nat) (p : Plan), i < n → List.getD (rowN n p) i false = next2 (iter i p)
  | 0, _, _, h => by omega
  | n + 1, 0, p, _ => rfl
  | n + 1, i + 1, p, h => by simpa [rowN, iter] using rowN_at n i (next1 p) (by omega)
theorem iter_next : ∀ (n : Nat) (p : Plan), iter (n + 1) p = next1 (iter n p)
  | 0, _ => rfl
  | n + 1, p => iter_next n (next1 p)
theorem iter_add : ∀ (n m : Nat) (p : Plan), iter n (iter m p) = iter (m + n) p
  | n, 0, p => by rw [Nat.zero_add]; rfl
  | n, m + 1, p => by rw [show m + 1 + n = (m + n) + 1 from by omega]; exact iter_add n m (next1 p)
theorem iter_ok {b : Int} (hb : 0 ≤ b) : ∀ (n : Nat) (p : Plan), okQ b p → okQ b (iter n p)
  | 0, _, h => h
  | n + 1, p, h => iter_ok hb n (next1 p) (okQ_next hb h)

/-! ### The laws -/
noncomputable def lvalue_W : FnW E := fn3 (E := E) .l_ref34_Gap .ref34_Gap .int .bool (fun _ _ _ => true) (fun _ _ _ => true)
def lvalue_id : FuncId := 9
noncomputable def lvalue_O : Oracle E := orac [(25, fadd_W), (26, fnext_W), (30, fof_W), (29, frow_W), (22, lsmall_W), (23, lawake_W)] []
noncomputable def lvalue_H : Hint E := Hint.mk [(0, [0, 2, 4, 7, 8]), (1, [2, 4, 9, 10, 11, 12]), (2, [2, 10, 13, 14, 15])] [] [(0, [(7, none, true, .fault_Gap)])]
noncomputable def lvalue_C0 (v0 : List Gap) (v1 : Int) (v2 : List Gap) (v3 : Int) (v4 : Int) (v5 : Int) : ASt E := ASt.mk 110 [(0, .d (.slice .ref34_Gap v0)), (2, .d (.int .i64 v1)), (4, .ptr 0 0), (7, .grow .fault_Gap v2 1), (8, .d (.int .i64 v3))] [(0, .box [.d (.int .i64 v4), .d (.int .i64 v5)]), (1, .tail true)] 2
noncomputable def lvalue_C1 (v0 : Int) (v1 : List Bool) (v2 : Int) (v3 : Int) (v4 : Int) (v5 : List Gap) (v6 : Int) (v7 : List Gap) (v8 : Int) : ASt E := ASt.mk 110 [(2, .d (.int .i64 v0)), (4, .ptr 0 0), (9, .ptr 1 0), (10, .d (.slice .bool v1)), (11, .ptr 2 0), (12, .d (.int .i64 v2))] [(0, .box [.d (.int .i64 v3), .d (.int .i64 v4)]), (1, .box [.d (.slice .fault_Gap v5), .d (.int .i64 v6)]), (2, .box [.d (.slice .fault_Gap v7), .d (.int .i64 v8)])] 3
noncomputable def lvalue_C2 (v0 : Int) (v1 : List Bool) (v2 : List Bool) (v3 : List Bool) (v4 : Int) : ASt E := ASt.mk 110 [(2, .d (.int .i64 v0)), (10, .d (.slice .bool v1)), (13, .d (.slice .bool v2)), (14, .d (.slice .bool v3)), (15, .d (.int .i64 v4))] [] 0
noncomputable def lvalue_t (G : Nat → ASt E → Option (List (TV E))) (x0 : List Gap) (x1 : Gap) (x2 : Int) : Option (List (TV E)) :=
  bif (bif (bif (!(small x0)) then true else (decide (x2 < (0 : Int)))) then true else (decide ((100 : Int) < x2))) then some [⟨.bool, true⟩] else G 0 (lvalue_C0 x0 x2 ([] : List Gap) (0 : Int) x1.skip x1.fail)
theorem lvalue_e (G : Nat → ASt E → Option (List (TV E))) (x0 : List Gap) (x1 : Gap) (x2 : Int) : runE lvalue_O lvalue_H G Try.f9 [⟨.l_ref34_Gap, x0⟩, ⟨.ref34_Gap, x1⟩, ⟨.int, x2⟩] = lvalue_t G x0 x1 x2 := by kernel_rfl
noncomputable def lvalue_t0 (G : Nat → ASt E → Option (List (TV E))) (v0 : List Gap) (v1 : Int) (v2 : List Gap) (v3 : Int) (v4 : Int) (v5 : Int) : Option (List (TV E)) :=
  bif (decide (v3 < (v0.length : Int))) then (bif (decide ((0 : Int) ≤ v3) && decide (v3 < (v0.length : Int))) then (bif (decide ((v2.length + ([(List.getD v0 (Int.toNat v3) (dflt .ref34_Gap))] : List Gap).length) * 16 ≤ maxBytes)) then G 0 (lvalue_C0 v0 v1 (v2 ++ ([(List.getD v0 (Int.toNat v3) (dflt .ref34_Gap))] : List Gap)) (w64 (v3 + (1 : Int))) v4 v5) else none) else none) else (bif (len1000 v2) then (bif ((fun p _ => okP p) (ofL v2) (200 : Int)) then (bif (((row (ofL v2) (200 : Int)).length : Int) != (200 : Int)) then some [⟨.bool, false⟩] else G 1 (lvalue_C1 v1 (row (ofL v2) (200 : Int)) (0 : Int) v4 v5 ((ofL v2).l) ((ofL v2).more) ((ofL v2).l) ((ofL v2).more))) else none) else none)
theorem lvalue_l0 (G : Nat → ASt E → Option (List (TV E))) (v0 : List Gap) (v1 : Int) (v2 : List Gap) (v3 : Int) (v4 : Int) (v5 : Int) : runL lvalue_O lvalue_H G Try.f9 0 (lvalue_C0 v0 v1 v2 v3 v4 v5) = lvalue_t0 G v0 v1 v2 v3 v4 v5 := by kernel_rfl
noncomputable def lvalue_t1 (G : Nat → ASt E → Option (List (TV E))) (v0 : Int) (v1 : List Bool) (v2 : Int) (v3 : Int) (v4 : Int) (v5 : List Gap) (v6 : Int) (v7 : List Gap) (v8 : Int) : Option (List (TV E)) :=
  bif (decide (v2 < v0)) then (bif (okP (⟨v7, v8⟩ : Plan)) then G 1 (lvalue_C1 v0 v1 (w64 (v2 + (1 : Int))) v3 v4 v5 v6 ((next1 (⟨v7, v8⟩ : Plan)).l) ((next1 (⟨v7, v8⟩ : Plan)).more)) else none) else (bif ((fun p _ => okP p) (⟨v5, v6⟩ : Plan) (200 : Int)) then (bif ((fun p _ => okP p) (⟨v7, v8⟩ : Plan) (200 : Int)) then (bif (bif (((row (⟨v5, v6⟩ : Plan) (200 : Int)).length : Int) != (200 : Int)) then true else (((row (⟨v7, v8⟩ : Plan) (200 : Int)).length : Int) != (200 : Int))) then some [⟨.bool, false⟩] else G 2 (lvalue_C2 v0 v1 (row (⟨v5, v6⟩ : Plan) (200 : Int)) (row (⟨v7, v8⟩ : Plan) (200 : Int)) (0 : Int))) else none) else none)
theorem lvalue_l1 (G : Nat → ASt E → Option (List (TV E))) (v0 : Int) (v1 : List Bool) (v2 : Int) (v3 : Int) (v4 : Int) (v5 : List Gap) (v6 : Int) (v7 : List Gap) (v8 : Int) : runL lvalue_O lvalue_H G Try.f9 1 (lvalue_C1 v0 v1 v2 v3 v4 v5 v6 v7 v8) = lvalue_t1 G v0 v1 v2 v3 v4 v5 v6 v7 v8 := by kernel_rfl
noncomputable def lvalue_t2 (G : Nat → ASt E → Option (List (TV E))) (v0 : Int) (v1 : List Bool) (v2 : List Bool) (v3 : List Bool) (v4 : Int) : Option (List (TV E)) :=
  bif (decide (v4 < (200 : Int))) then (bif (decide ((0 : Int) ≤ v4) && decide (v4 < (v1.length : Int))) then (bif (decide ((0 : Int) ≤ v4) && decide (v4 < (v2.length : Int))) then (bif ((decide ((0 : Int) ≤ v4) && decide (v4 < (v3.length : Int))) || !((!(!((List.getD v1 (Int.toNat v4) (dflt .bool)) == (List.getD v2 (Int.toNat v4) (dflt .bool))))) && (decide ((w64 (v4 + v0)) < (200 : Int))))) then (bif ((decide ((0 : Int) ≤ (w64 (v4 + v0))) && decide ((w64 (v4 + v0)) < (v1.length : Int))) || !((!(!((List.getD v1 (Int.toNat v4) (dflt .bool)) == (List.getD v2 (Int.toNat v4) (dflt .bool))))) && (decide ((w64 (v4 + v0)) < (200 : Int))))) then (bif (bif (!((List.getD v1 (Int.toNat v4) (dflt .bool)) == (List.getD v2 (Int.toNat v4) (dflt .bool)))) then true else (bif (decide ((w64 (v4 + v0)) < (200 : Int))) then (!((List.getD v3 (Int.toNat v4) (dflt .bool)) == (List.getD v1 (Int.toNat (w64 (v4 + v0))) (dflt .bool)))) else false)) then some [⟨.bool, false⟩] else G 2 (lvalue_C2 v0 v1 v2 v3 (w64 (v4 + (1 : Int))))) else none) else none) else none) else none) else some [⟨.bool, true⟩]
theorem lvalue_l2 (G : Nat → ASt E → Option (List (TV E))) (v0 : Int) (v1 : List Bool) (v2 : List Bool) (v3 : List Bool) (v4 : Int) : runL lvalue_O lvalue_H G Try.f9 2 (lvalue_C2 v0 v1 v2 v3 v4) = lvalue_t2 G v0 v1 v2 v3 v4 := by kernel_rfl
theorem lvalue_f : Try.prog.funcs[9]? = some Try.f9 := by kernel_rfl
theorem lvalue_n : (Try.f9.name == "runtime.NumGoroutine") = false := by kernel_rfl
theorem lvalue_b : Try.f9.body.isNone = false := by kernel_rfl
theorem lvalue_hO : OracleOk E lvalue_O := orac_ok (.cons fadd_ok (.cons fnext_ok (.cons fof_ok (.cons frow_ok (.cons lsmall_ok (.cons lawake_ok .nil)))))) .nil
theorem lvalue_s0 {res : List (TV E)} {v0 : List Gap} {v1 : Int} {v2 : List Gap} {v3 : Int} {v4 : Int} {v5 : Int} (h : lvalue_t0 (Gr E Try.f9 res) v0 v1 v2 v3 v4 v5 = some res) : Ev E Try.f9 res 0 (lvalue_C0 v0 v1 v2 v3 v4 v5) := Ev.step lvalue_hO mix ((lvalue_l0 _ v0 v1 v2 v3 v4 v5).trans h)
theorem lvalue_s1 {res : List (TV E)} {v0 : Int} {v1 : List Bool} {v2 : Int} {v3 : Int} {v4 : Int} {v5 : List Gap} {v6 : Int} {v7 : List Gap} {v8 : Int} (h : lvalue_t1 (Gr E Try.f9 res) v0 v1 v2 v3 v4 v5 v6 v7 v8 = some res) : Ev E Try.f9 res 1 (lvalue_C1 v0 v1 v2 v3 v4 v5 v6 v7 v8) := Ev.step lvalue_hO mix ((lvalue_l1 _ v0 v1 v2 v3 v4 v5 v6 v7 v8).trans h)
theorem lvalue_s2 {res : List (TV E)} {v0 : Int} {v1 : List Bool} {v2 : List Bool} {v3 : List Bool} {v4 : Int} (h : lvalue_t2 (Gr E Try.f9 res) v0 v1 v2 v3 v4 = some res) : Ev E Try.f9 res 2 (lvalue_C2 v0 v1 v2 v3 v4) := Ev.step lvalue_hO mix ((lvalue_l2 _ v0 v1 v2 v3 v4).trans h)
theorem lvalue_ok_of (h : ∀ (x0 : List Gap) (x1 : Gap) (x2 : Int), lvalue_t (Gr E Try.f9 [⟨.bool, (fun _ _ _ => true) x0 x1 x2⟩]) x0 x1 x2 = some [⟨.bool, (fun _ _ _ => true) x0 x1 x2⟩]) : FnOk E lvalue_id lvalue_W := fn3_ok lvalue_hO mix lvalue_f lvalue_n lvalue_b (fun x0 x1 x2 _ => (lvalue_e _ x0 x1 x2).trans (h x0 x1 x2))
theorem lvalue_2 (n : Nat) (p : Plan) : ∀ (m i : Nat), 200 - i = m → i ≤ 200 → n ≤ 100 → Ev E Try.f9 [⟨.bool, true⟩] 2 (lvalue_C2 n (rowN 200 p) (rowN 200 p) (rowN 200 (iter n p)) i) := by
  intro m
  induction m with
  | zero =>
    intro i h1 h2 hn
    refine lvalue_s2 ?_
    simp only [lvalue_t2, Bool.cond_eq_ite, decide_eq_true_eq]
    rw [if_neg (by omega)]
  | succ m ih =>
    intro i h1 h2 hn
    refine lvalue_s2 ?_
    have b1 : decide ((i : Int) < 200) = true := by simp only [decide_eq_true_eq]; omega
    have b2 : decide ((0 : Int) ≤ (i : Int)) = true := by simp only [decide_eq_true_eq]; omega
    have w1 : w64 ((i : Int) + n) = ((i + n : Nat) : Int) := w64_id (by omega) (by omega)
    have w2 : w64 ((i : Int) + 1) = ((i + 1 : Nat) : Int) := w64_id (by omega) (by omega)
    have b3 : decide ((0 : Int) ≤ ((i + n : Nat) : Int)) = true := by simp only [decide_eq_true_eq]; omega
    have r1 := rowN_at 200 i p (by omega)
    have r2 := rowN_at 200 i (iter n p) (by omega)
    rw [iter_add] at r2
    have hd : dflt .bool = false := rfl
    simp only [lvalue_t2, rowN_len, w1, w2, Int.toNat_natCast, hd, r1, r2, b1, b2, b3, Bool.true_and, Bool.true_or, cond_true, BEq.rfl, Bool.not_true, cond_false, Bool.not_false, show (((200 : Nat) : Int)) = 200 from rfl]
    by_cases h : i + n < 200
    · have r3 := rowN_at 200 (i + n) p h
      rw [Nat.add_comm n i]
      have b4 : decide (((i + n : Nat) : Int) < 200) = true := by simp only [decide_eq_true_eq]; omega
      simp only [b4, r3, cond_true, BEq.rfl, Bool.not_true, cond_false, Bool.true_or]
      exact Gr_of (ih (i + 1) (by omega) (by omega) hn)
    · have b4 : decide (((i + n : Nat) : Int) < 200) = false := by simp only [decide_eq_false_iff_not]; omega
      simp only [b4, cond_false, Bool.not_false, Bool.or_true, cond_true]
      exact Gr_of (ih (i + 1) (by omega) (by omega) hn)
theorem row200 (p : Plan) : row p 200 = rowN 200 p := rfl
theorem lvalue_1 (n : Nat) (hn : n ≤ 100) (p : Plan) (hp : okQ 40000 p) (s f : Int) : ∀ (m i : Nat), n - i = m → i ≤ n → Ev E Try.f9 [⟨.bool, true⟩] 1 (lvalue_C1 n (rowN 200 p) i s f p.l p.more (iter i p).l (iter i p).more) := by
  intro m
  induction m with
  | zero =>
    intro i h1 h2
    have e : i = n := by omega
    subst e
    refine lvalue_s1 ?_
    have k1 : okP ⟨p.l, p.more⟩ = true := okQ_okP (p := p) hp (by omega)
    have k2 : okP ⟨(iter i p).l, (iter i p).more⟩ = true := okQ_okP (p := iter i p) (iter_ok (by omega) i p hp) (by omega)
    have b1 : decide ((i : Int) < (i : Int)) = false := by simp
    have e1 : (⟨p.l, p.more⟩ : Plan) = p := rfl
    have e2 : (⟨(iter i p).l, (iter i p).more⟩ : Plan) = iter i p := rfl
    simp only [lvalue_t1, b1, cond_false, k1, k2, cond_true, e1, e2, row200, rowN_len]
    exact Gr_of (lvalue_2 i p 200 0 (by omega) (by omega) hn)
  | succ m ih =>
    intro i h1 h2
    refine lvalue_s1 ?_
    have k2 : okP ⟨(iter i p).l, (iter i p).more⟩ = true := okQ_okP (p := iter i p) (iter_ok (by omega) i p hp) (by omega)
    have b1 : decide ((i : Int) < (n : Int)) = true := by simp only [decide_eq_true_eq]; omega
    have w2 : w64 ((i : Int) + 1) = ((i + 1 : Nat) : Int) := w64_id (by omega) (by omega)
    have e2 : (⟨(iter i p).l, (iter i p).more⟩ : Plan) = iter i p := rfl
    simp only [lvalue_t1, b1, k2, cond_true, w2, e2]
    rw [← iter_next]
    exact Gr_of (ih (i + 1) (by omega) (by omega))
theorem lvalue_0 (l : List Gap) (hl : l.length ≤ 40) (n : Nat) (hn : n ≤ 100) (s f : Int) : ∀ (m i : Nat), l.length - i = m → i ≤ l.length → Ev E Try.f9 [⟨.bool, true⟩] 0 (lvalue_C0 l n (l.take i) i s f) := by
  have hm' : maxBytes = 140737488355328 := rfl
  intro m
  induction m with
  | zero =>
    intro i h1 h2
    have e : i = l.length := by omega
    subst e
    refine lvalue_s0 ?_
    have k1 : okP (ofL l) = true := okQ_okP (okQ_of hl) (by omega)
    have k0 : len1000 l = true := by simp only [len1000, decide_eq_true_eq]; omega
    have b1 : decide ((l.length : Int) < (l.length : Int)) = false := by simp
    simp only [lvalue_t0, b1, cond_false, List.take_length, k0, k1, cond_true, row200, rowN_len]
    exact Gr_of (lvalue_1 n hn (ofL l) (okQ_of hl) s f n 0 (by omega) (by omega))
  | succ m ih =>
    intro i h1 h2
    have hi : i < l.length := by omega
    refine lvalue_s0 ?_
    have hlen : (l.take i).length = i := by rw [List.length_take]; omega
    have e1 : List.getD l (Int.toNat (i : Int)) (dflt .ref34_Gap) = l[i] := by rw [Int.toNat_natCast, List.getD, List.getElem?_eq_getElem hi]; rfl
    simp only [lvalue_t0, Bool.cond_eq_ite, decide_eq_true_eq, Bool.and_eq_true, e1, hlen, List.length_cons, List.length_nil]
    rw [if_pos (by omega), if_pos (by omega), if_pos (by omega), w64_id (by omega) (by omega), List.take_append_getElem hi]
    exact Gr_of (ih (i + 1) (by omega) (by omega))
theorem lvalue_ok : FnOk E lvalue_id lvalue_W := lvalue_ok_of fun l g n => by
  change lvalue_t (Gr E Try.f9 [⟨.bool, true⟩]) l g n = some [⟨.bool, true⟩]
  simp only [lvalue_t]
  by_cases h : small l = true ∧ 0 ≤ n ∧ n ≤ 100
  · obtain ⟨h1, h2, h3⟩ := h
    have b1 : decide (n < 0) = false := by simp only [decide_eq_false_iff_not]; omega
    have b2 : decide (100 < n) = false := by simp only [decide_eq_false_iff_not]; omega
    simp only [h1, b1, b2, Bool.not_true, cond_false]
    obtain ⟨k, rfl⟩ : ∃ k : Nat, n = k := ⟨n.toNat, by omega⟩
    exact Gr_of (lvalue_0 l (small_len h1) k (by omega) g.skip g.fail l.length 0 (by omega) (by omega))
  · have e : (bif (bif (!(small l)) then true else (decide (n < (0 : Int)))) then true else (decide ((100 : Int) < n))) = true := by
      cases hs : small l with
      | false => rfl
      | true =>
        have hh : ¬ (0 ≤ n ∧ n ≤ 100) := fun hh => h ⟨hs, hh⟩
        by_cases h0 : n < 0
        · simp [h0]
        · have h1 : 100 < n := by omega
          simp [h0, h1]
    rw [e]
    rfl
noncomputable def lplays_W : FnW E := fn3 (E := E) .l_ref34_Gap .l_ref34_Gap .int .bool (fun _ _ _ => true) (fun _ _ _ => true)
def lplays_id : FuncId := 7
noncomputable def lplays_O : Oracle E := orac [(25, fadd_W), (26, fnext_W), (29, frow_W), (22, lsmall_W), (23, lawake_W), (28, radd_W), (27, rnext_W), (24, rof_W)] []
noncomputable def lplays_H : Hint E := Hint.mk [(0, [0, 1, 2, 7, 8, 9]), (1, [1, 2, 7, 8, 10]), (2, [1, 2, 7, 8, 10, 11]), (3, [8, 16, 18])] [] [(0, [(7, some 0, false, .fault_Gap)])]
noncomputable def lplays_C0 (v0 : List Gap) (v1 : List Gap) (v2 : Int) (v3 : Int) (v4 : List Gap) (v5 : Int) (v6 : List Gap) (v7 : Int) : ASt E := ASt.mk 122 [(0, .d (.slice .ref34_Gap v0)), (1, .d (.slice .ref34_Gap v1)), (2, .d (.int .i64 v2)), (7, .ptr 0 0), (8, .ptr 1 0), (9, .d (.int .i64 v3))] [(0, .box [.d (.slice .fault_Gap v4), .d (.int .i64 v5)]), (1, .box [.d (.slice .ref34_Gap v6), .d (.int .i64 v7)])] 2
noncomputable def lplays_C1 (v0 : List Gap) (v1 : Int) (v2 : Int) (v3 : List Gap) (v4 : Int) (v5 : List Gap) (v6 : Int) : ASt E := ASt.mk 122 [(1, .d (.slice .ref34_Gap v0)), (2, .d (.int .i64 v1)), (7, .ptr 0 0), (8, .ptr 1 0), (10, .d (.int .i64 v2))] [(0, .box [.d (.slice .fault_Gap v3), .d (.int .i64 v4)]), (1, .box [.d (.slice .ref34_Gap v5), .d (.int .i64 v6)])] 2
noncomputable def lplays_C2 (v0 : List Gap) (v1 : Int) (v2 : Int) (v3 : Int) (v4 : List Gap) (v5 : Int) (v6 : List Gap) (v7 : Int) : ASt E := ASt.mk 122 [(1, .d (.slice .ref34_Gap v0)), (2, .d (.int .i64 v1)), (7, .ptr 0 0), (8, .ptr 1 0), (10, .d (.int .i64 v2)), (11, .d (.int .i64 v3))] [(0, .box [.d (.slice .fault_Gap v4), .d (.int .i64 v5)]), (1, .box [.d (.slice .ref34_Gap v6), .d (.int .i64 v7)])] 2
noncomputable def lplays_C3 (v0 : List Bool) (v1 : Int) (v2 : List Gap) (v3 : Int) : ASt E := ASt.mk 122 [(8, .ptr 0 0), (16, .d (.slice .bool v0)), (18, .d (.int .i64 v1))] [(0, .box [.d (.slice .ref34_Gap v2), .d (.int .i64 v3)])] 1
noncomputable def lplays_t (G : Nat → ASt E → Option (List (TV E))) (x0 : List Gap) (x1 : List Gap) (x2 : Int) : Option (List (TV E)) :=
  bif (bif (bif (!(small x0)) then true else (!(small x1))) then true else (decide ((10 : Int) < (x1.length : Int)))) then some [⟨.bool, true⟩] else (bif (len1000 x0) then G 0 (lplays_C0 x0 x1 x2 (0 : Int) ([] : List Gap) (0 : Int) ((ofL x0).l) ((ofL x0).more)) else none)
theorem lplays_e (G : Nat → ASt E → Option (List (TV E))) (x0 : List Gap) (x1 : List Gap) (x2 : Int) : runE lplays_O lplays_H G Try.f7 [⟨.l_ref34_Gap, x0⟩, ⟨.l_ref34_Gap, x1⟩, ⟨.int, x2⟩] = lplays_t G x0 x1 x2 := by kernel_rfl
noncomputable def lplays_t0 (G : Nat → ASt E → Option (List (TV E))) (v0 : List Gap) (v1 : List Gap) (v2 : Int) (v3 : Int) (v4 : List Gap) (v5 : Int) (v6 : List Gap) (v7 : Int) : Option (List (TV E)) :=
  bif (decide (v3 < (v0.length : Int))) then (bif (decide ((0 : Int) ≤ v3) && decide (v3 < (v0.length : Int))) then G 0 (lplays_C0 v0 v1 v2 (w64 (v3 + (1 : Int))) ((add (⟨v4, v5⟩ : Plan) (List.getD v0 (Int.toNat v3) (dflt .ref34_Gap))).l) ((add (⟨v4, v5⟩ : Plan) (List.getD v0 (Int.toNat v3) (dflt .ref34_Gap))).more) v6 v7) else none) else G 1 (lplays_C1 v1 v2 (0 : Int) v4 v5 v6 v7)
theorem lplays_l0 (G : Nat → ASt E → Option (List (TV E))) (v0 : List Gap) (v1 : List Gap) (v2 : Int) (v3 : Int) (v4 : List Gap) (v5 : Int) (v6 : List Gap) (v7 : Int) : runL lplays_O lplays_H G Try.f7 0 (lplays_C0 v0 v1 v2 v3 v4 v5 v6 v7) = lplays_t0 G v0 v1 v2 v3 v4 v5 v6 v7 := by kernel_rfl
noncomputable def lplays_t1 (G : Nat → ASt E → Option (List (TV E))) (v0 : List Gap) (v1 : Int) (v2 : Int) (v3 : List Gap) (v4 : Int) (v5 : List Gap) (v6 : Int) : Option (List (TV E)) :=
  bif (decide (v2 < (v0.length : Int))) then G 2 (lplays_C2 v0 v1 v2 (0 : Int) v3 v4 v5 v6) else (bif ((fun p _ => okP p) (⟨v3, v4⟩ : Plan) v1) then (bif (decide ((0 : Int) < v1)) then (bif (decide ((5000 : Int) < v1)) then (bif (((row (⟨v3, v4⟩ : Plan) v1).length : Int) != (5000 : Int)) then some [⟨.bool, false⟩] else G 3 (lplays_C3 (row (⟨v3, v4⟩ : Plan) v1) (0 : Int) v5 v6)) else (bif (((row (⟨v3, v4⟩ : Plan) v1).length : Int) != v1) then some [⟨.bool, false⟩] else G 3 (lplays_C3 (row (⟨v3, v4⟩ : Plan) v1) (0 : Int) v5 v6))) else (bif (decide ((5000 : Int) < v1)) then (bif (((row (⟨v3, v4⟩ : Plan) v1).length : Int) != (5000 : Int)) then some [⟨.bool, false⟩] else G 3 (lplays_C3 (row (⟨v3, v4⟩ : Plan) v1) (0 : Int) v5 v6)) else (bif (((row (⟨v3, v4⟩ : Plan) v1).length : Int) != (0 : Int)) then some [⟨.bool, false⟩] else G 3 (lplays_C3 (row (⟨v3, v4⟩ : Plan) v1) (0 : Int) v5 v6)))) else none)
theorem lplays_l1 (G : Nat → ASt E → Option (List (TV E))) (v0 : List Gap) (v1 : Int) (v2 : Int) (v3 : List Gap) (v4 : Int) (v5 : List Gap) (v6 : Int) : runL lplays_O lplays_H G Try.f7 1 (lplays_C1 v0 v1 v2 v3 v4 v5 v6) = lplays_t1 G v0 v1 v2 v3 v4 v5 v6 := by kernel_rfl
noncomputable def lplays_t2 (G : Nat → ASt E → Option (List (TV E))) (v0 : List Gap) (v1 : Int) (v2 : Int) (v3 : Int) (v4 : List Gap) (v5 : Int) (v6 : List Gap) (v7 : Int) : Option (List (TV E)) :=
  bif (decide (v3 < (5 : Int))) then (bif (okP (⟨v4, v5⟩ : Plan)) then (bif (okP (⟨v6, v7⟩ : Plan)) then (bif (!((next2 (⟨v4, v5⟩ : Plan)) == (next2 (⟨v6, v7⟩ : Plan)))) then some [⟨.bool, false⟩] else G 2 (lplays_C2 v0 v1 v2 (w64 (v3 + (1 : Int))) ((next1 (⟨v4, v5⟩ : Plan)).l) ((next1 (⟨v4, v5⟩ : Plan)).more) ((next1 (⟨v6, v7⟩ : Plan)).l) ((next1 (⟨v6, v7⟩ : Plan)).more))) else none) else none) else (bif (decide ((0 : Int) ≤ v2) && decide (v2 < (v0.length : Int))) then (bif (decide ((0 : Int) ≤ v2) && decide (v2 < (v0.length : Int))) then G 1 (lplays_C1 v0 v1 (w64 (v2 + (1 : Int))) ((add (⟨v4, v5⟩ : Plan) (List.getD v0 (Int.toNat v2) (dflt .ref34_Gap))).l) ((add (⟨v4, v5⟩ : Plan) (List.getD v0 (Int.toNat v2) (dflt .ref34_Gap))).more) ((add (⟨v6, v7⟩ : Plan) (List.getD v0 (Int.toNat v2) (dflt .ref34_Gap))).l) ((add (⟨v6, v7⟩ : Plan) (List.getD v0 (Int.toNat v2) (dflt .ref34_Gap))).more)) else none) else none)
theorem lplays_l2 (G : Nat → ASt E → Option (List (TV E))) (v0 : List Gap) (v1 : Int) (v2 : Int) (v3 : Int) (v4 : List Gap) (v5 : Int) (v6 : List Gap) (v7 : Int) : runL lplays_O lplays_H G Try.f7 2 (lplays_C2 v0 v1 v2 v3 v4 v5 v6 v7) = lplays_t2 G v0 v1 v2 v3 v4 v5 v6 v7 := by kernel_rfl
noncomputable def lplays_t3 (G : Nat → ASt E → Option (List (TV E))) (v0 : List Bool) (v1 : Int) (v2 : List Gap) (v3 : Int) : Option (List (TV E)) :=
  bif (bif (decide (v1 < (v0.length : Int))) then (decide (v1 < (300 : Int))) else false) then (bif (okP (⟨v2, v3⟩ : Plan)) then (bif (decide ((0 : Int) ≤ v1) && decide (v1 < (v0.length : Int))) then (bif (!((List.getD v0 (Int.toNat v1) (dflt .bool)) == (next2 (⟨v2, v3⟩ : Plan)))) then some [⟨.bool, false⟩] else G 3 (lplays_C3 v0 (w64 (v1 + (1 : Int))) ((next1 (⟨v2, v3⟩ : Plan)).l) ((next1 (⟨v2, v3⟩ : Plan)).more))) else none) else none) else some [⟨.bool, true⟩]
theorem lplays_l3 (G : Nat → ASt E → Option (List (TV E))) (v0 : List Bool) (v1 : Int) (v2 : List Gap) (v3 : Int) : runL lplays_O lplays_H G Try.f7 3 (lplays_C3 v0 v1 v2 v3) = lplays_t3 G v0 v1 v2 v3 := by kernel_rfl
theorem lplays_f : Try.prog.funcs[7]? = some Try.f7 := by kernel_rfl
theorem lplays_n : (Try.f7.name == "runtime.NumGoroutine") = false := by kernel_rfl
theorem lplays_b : Try.f7.body.isNone = false := by kernel_rfl
theorem lplays_hO : OracleOk E lplays_O := orac_ok (.cons fadd_ok (.cons fnext_ok (.cons frow_ok (.cons lsmall_ok (.cons lawake_ok (.cons radd_ok (.cons rnext_ok (.cons rof_ok .nil)))))))) .nil
theorem lplays_s0 {res : List (TV E)} {v0 : List Gap} {v1 : List Gap} {v2 : Int} {v3 : Int} {v4 : List Gap} {v5 : Int} {v6 : List Gap} {v7 : Int} (h : lplays_t0 (Gr E Try.f7 res) v0 v1 v2 v3 v4 v5 v6 v7 = some res) : Ev E Try.f7 res 0 (lplays_C0 v0 v1 v2 v3 v4 v5 v6 v7) := Ev.step lplays_hO mix ((lplays_l0 _ v0 v1 v2 v3 v4 v5 v6 v7).trans h)
theorem lplays_s1 {res : List (TV E)} {v0 : List Gap} {v1 : Int} {v2 : Int} {v3 : List Gap} {v4 : Int} {v5 : List Gap} {v6 : Int} (h : lplays_t1 (Gr E Try.f7 res) v0 v1 v2 v3 v4 v5 v6 = some res) : Ev E Try.f7 res 1 (lplays_C1 v0 v1 v2 v3 v4 v5 v6) := Ev.step lplays_hO mix ((lplays_l1 _ v0 v1 v2 v3 v4 v5 v6).trans h)
theorem lplays_s2 {res : List (TV E)} {v0 : List Gap} {v1 : Int} {v2 : Int} {v3 : Int} {v4 : List Gap} {v5 : Int} {v6 : List Gap} {v7 : Int} (h : lplays_t2 (Gr E Try.f7 res) v0 v1 v2 v3 v4 v5 v6 v7 = some res) : Ev E Try.f7 res 2 (lplays_C2 v0 v1 v2 v3 v4 v5 v6 v7) := Ev.step lplays_hO mix ((lplays_l2 _ v0 v1 v2 v3 v4 v5 v6 v7).trans h)
theorem lplays_s3 {res : List (TV E)} {v0 : List Bool} {v1 : Int} {v2 : List Gap} {v3 : Int} (h : lplays_t3 (Gr E Try.f7 res) v0 v1 v2 v3 = some res) : Ev E Try.f7 res 3 (lplays_C3 v0 v1 v2 v3) := Ev.step lplays_hO mix ((lplays_l3 _ v0 v1 v2 v3).trans h)
theorem lplays_ok_of (h : ∀ (x0 : List Gap) (x1 : List Gap) (x2 : Int), lplays_t (Gr E Try.f7 [⟨.bool, (fun _ _ _ => true) x0 x1 x2⟩]) x0 x1 x2 = some [⟨.bool, (fun _ _ _ => true) x0 x1 x2⟩]) : FnOk E lplays_id lplays_W := fn3_ok lplays_hO mix lplays_f lplays_n lplays_b (fun x0 x1 x2 _ => (lplays_e _ x0 x1 x2).trans (h x0 x1 x2))
theorem lplays_3 (K : Nat) (p : Plan) (hp : okQ 50000 p) : ∀ (m i : Nat), K - i = m → i ≤ K → Ev E Try.f7 [⟨.bool, true⟩] 3 (lplays_C3 (rowN K p) i (iter i p).l (iter i p).more) := by
  intro m
  induction m with
  | zero =>
    intro i h1 h2
    have e : i = K := by omega
    subst e
    refine lplays_s3 ?_
    have b1 : decide ((i : Int) < (i : Int)) = false := by simp
    simp only [lplays_t3, rowN_len, b1, cond_false]
  | succ m ih =>
    intro i h1 h2
    refine lplays_s3 ?_
    have b1 : decide ((i : Int) < (K : Int)) = true := by simp only [decide_eq_true_eq]; omega
    have b2 : decide ((0 : Int) ≤ (i : Int)) = true := by simp only [decide_eq_true_eq]; omega
    have k2 : okP ⟨(iter i p).l, (iter i p).more⟩ = true := okQ_okP (p := iter i p) (iter_ok (by omega) i p hp) (by omega)
    have e2 : (⟨(iter i p).l, (iter i p).more⟩ : Plan) = iter i p := rfl
    have hd : dflt .bool = false := rfl
    simp only [lplays_t3, rowN_len, b1, b2, k2, cond_true, Bool.true_and, Int.toNat_natCast, hd, rowN_at K i p (by omega), e2, BEq.rfl, Bool.not_true, cond_false]
    by_cases h3 : (i : Int) < 300
    · have b3 : decide ((i : Int) < 300) = true := by simp only [decide_eq_true_eq]; exact h3
      have w2 : w64 ((i : Int) + 1) = ((i + 1 : Nat) : Int) := w64_id (by omega) (by omega)
      rw [b3, cond_true, w2, ← iter_next]
      exact Gr_of (ih (i + 1) (by omega) (by omega))
    · have b3 : decide ((i : Int) < 300) = false := by simp only [decide_eq_false_iff_not]; exact h3
      rw [b3, cond_false]
theorem row_len (p : Plan) (n : Int) : (row p n).length = Int.toNat (min n 5000) := rowN_len _ _
theorem lplays_1 (later : List Gap) (hl : later.length ≤ 10) (n : Int) : ∀ (m i : Nat) (p : Plan), later.length - i = m → i ≤ later.length → okQ (40000 + 1000 * i) p →
    Ev E Try.f7 [⟨.bool, true⟩] 1 (lplays_C1 later n i p.l p.more p.l p.more) := by
  intro m
  induction m with
  | zero =>
    intro i p h1 h2 hp
    refine lplays_s1 ?_
    have hp' : okQ 50000 p := okQ_mono hp (by omega)
    have k2 : okP ⟨p.l, p.more⟩ = true := okQ_okP (p := p) hp (by omega)
    have b1 : decide ((i : Int) < (later.length : Int)) = false := by simp only [decide_eq_false_iff_not]; omega
    have e2 : (⟨p.l, p.more⟩ : Plan) = p := rfl
    have h3 := lplays_3 (Int.toNat (min n 5000)) p hp' (Int.toNat (min n 5000)) 0 (by omega) (by omega)
    have h3' : Ev E Try.f7 [⟨.bool, true⟩] 3 (lplays_C3 (row p n) 0 p.l p.more) := h3
    simp only [lplays_t1, b1, k2, cond_true, cond_false, e2, row_len]
    simp only [Bool.cond_eq_ite, decide_eq_true_eq, bne_iff_ne]
    by_cases n0 : 0 < n
    · by_cases n5 : 5000 < n
      · rw [if_pos n0, if_pos n5, if_neg (by omega)]
        exact Gr_of h3'
      · rw [if_pos n0, if_neg n5, if_neg (by omega)]
        exact Gr_of h3'
    · rw [if_neg n0, if_neg (by omega), if_neg (by omega)]
      exact Gr_of h3'
  | succ m ih =>
    intro i p h1 h2 hp
    have hi : i < later.length := by omega
    have inner : ∀ (mk k : Nat) (p : Plan), 5 - k = mk → k ≤ 5 → okQ (40000 + 1000 * i) p → Ev E Try.f7 [⟨.bool, true⟩] 2 (lplays_C2 later n i k p.l p.more p.l p.more) := by
      intro mk
      induction mk with
      | zero =>
        intro k p g1 g2 hp
        refine lplays_s2 ?_
        have b1 : decide ((k : Int) < 5) = false := by simp only [decide_eq_false_iff_not]; omega
        have b2 : decide ((0 : Int) ≤ (i : Int)) = true := by simp only [decide_eq_true_eq]; omega
        have b3 : decide ((i : Int) < (later.length : Int)) = true := by simp only [decide_eq_true_eq]; omega
        have w2 : w64 ((i : Int) + 1) = ((i + 1 : Nat) : Int) := w64_id (by omega) (by omega)
        have e2 : (⟨p.l, p.more⟩ : Plan) = p := rfl
        simp only [lplays_t2, b1, b2, b3, cond_true, cond_false, Bool.true_and, w2, e2]
        refine Gr_of (ih (i + 1) _ (by omega) (by omega) ?_)
        have := okQ_add (b := 40000 + 1000 * i) (by omega) (by omega) (g := List.getD later (Int.toNat (i : Int)) (dflt .ref34_Gap)) hp
        exact okQ_mono this (by omega)
      | succ mk ihk =>
        intro k p g1 g2 hp
        refine lplays_s2 ?_
        have b1 : decide ((k : Int) < 5) = true := by simp only [decide_eq_true_eq]; omega
        have k2 : okP ⟨p.l, p.more⟩ = true := okQ_okP (p := p) hp (by omega)
        have w2 : w64 ((k : Int) + 1) = ((k + 1 : Nat) : Int) := w64_id (by omega) (by omega)
        have e2 : (⟨p.l, p.more⟩ : Plan) = p := rfl
        simp only [lplays_t2, b1, k2, cond_true, cond_false, BEq.rfl, Bool.not_true, w2, e2]
        exact Gr_of (ihk (k + 1) (next1 p) (by omega) (by omega) (okQ_next (by omega) hp))
    refine lplays_s1 ?_
    have b1 : decide ((i : Int) < (later.length : Int)) = true := by simp only [decide_eq_true_eq]; omega
    simp only [lplays_t1, b1, cond_true]
    exact Gr_of (inner 5 0 p (by omega) (by omega) hp)
theorem lplays_0 (l later : List Gap) (hl : l.length ≤ 40) (hl2 : later.length ≤ 10) (n : Int) : ∀ (m i : Nat), l.length - i = m → i ≤ l.length →
    Ev E Try.f7 [⟨.bool, true⟩] 0 (lplays_C0 l later n i ((l.take i).foldl add ⟨[], 0⟩).l ((l.take i).foldl add ⟨[], 0⟩).more (ofL l).l (ofL l).more) := by
  intro m
  induction m with
  | zero =>
    intro i h1 h2
    have e : i = l.length := by omega
    subst e
    refine lplays_s0 ?_
    have b1 : decide ((l.length : Int) < (l.length : Int)) = false := by simp
    simp only [lplays_t0, b1, cond_false, List.take_length]
    exact Gr_of (lplays_1 later hl2 n later.length 0 (ofL l) (by omega) (by omega) (okQ_mono (okQ_of hl) (by omega)))
  | succ m ih =>
    intro i h1 h2
    have hi : i < l.length := by omega
    refine lplays_s0 ?_
    have b1 : decide ((i : Int) < (l.length : Int)) = true := by simp only [decide_eq_true_eq]; omega
    have b2 : decide ((0 : Int) ≤ (i : Int)) = true := by simp only [decide_eq_true_eq]; omega
    have w2 : w64 ((i : Int) + 1) = ((i + 1 : Nat) : Int) := w64_id (by omega) (by omega)
    have e1 : List.getD l (Int.toNat (i : Int)) (dflt .ref34_Gap) = l[i] := by rw [Int.toNat_natCast, List.getD, List.getElem?_eq_getElem hi]; rfl
    have e3 : add (⟨((l.take i).foldl add ⟨[], 0⟩).l, ((l.take i).foldl add ⟨[], 0⟩).more⟩ : Plan) l[i] = (l.take (i + 1)).foldl add ⟨[], 0⟩ := by
      rw [← List.take_append_getElem hi, List.foldl_append]
      rfl
    simp only [lplays_t0, b1, b2, cond_true, Bool.true_and, w2, e1, e3]
    exact Gr_of (ih (i + 1) (by omega) (by omega))
theorem lplays_ok : FnOk E lplays_id lplays_W := lplays_ok_of fun l later n => by
  change lplays_t (Gr E Try.f7 [⟨.bool, true⟩]) l later n = some [⟨.bool, true⟩]
  simp only [lplays_t]
  cases hs : small l with
  | false => simp
  | true =>
    cases hs2 : small later with
    | false => simp
    | true =>
      by_cases h10 : later.length ≤ 10
      · have b1 : decide ((10 : Int) < (later.length : Int)) = false := by simp only [decide_eq_false_iff_not]; omega
        have hl := small_len hs
        have k0 : len1000 l = true := by simp only [len1000, decide_eq_true_eq]; omega
        simp only [b1, Bool.not_true, cond_false, k0, cond_true]
        exact Gr_of (lplays_0 l later hl h10 n l.length 0 (by omega) (by omega))
      · have b1 : decide ((10 : Int) < (later.length : Int)) = true := by simp only [decide_eq_true_eq]; omega
        simp only [b1, Bool.not_true, cond_false, cond_true]

/-! ### A plan's row is its gaps, laid out -/
def lay (g : Gap) : List Bool := List.replicate (Int.toNat g.skip) false ++ List.replicate (Int.toNat g.fail) true
def rows : List Gap → List Bool
  | [] => []
  | g :: t => lay g ++ rows t
theorem row_none (m : Int) : ∀ n, rowN n ⟨[], m⟩ = List.replicate n false
  | 0 => rfl
  | n + 1 => by
    have : next1 ⟨[], m⟩ = ⟨[], if 0 < m then m - 1 else 0⟩ := rfl
    rw [rowN, this, row_none _ n]
    rfl
theorem row_skip (f : Int) (t : List Gap) (m : Int) (n : Nat) : ∀ s : Nat, rowN (s + n) ⟨⟨s, f⟩ :: t, m⟩ = List.replicate s false ++ rowN n ⟨⟨0, f⟩ :: t, m⟩
  | 0 => by simp
  | s + 1 => by
    have e : next ⟨⟨((s + 1 : Nat) : Int), f⟩ :: t, m⟩ = (⟨⟨(s : Int), f⟩ :: t, m⟩, false) := by
      simp only [next]
      rw [if_pos (by omega), show ((s + 1 : Nat) : Int) - 1 = (s : Int) from by omega]
    rw [show s + 1 + n = (s + n) + 1 from by omega, rowN]
    simp only [next1, next2, e]
    rw [row_skip f t m n s, List.replicate_succ, List.cons_append]
theorem row_fail (t : List Gap) (m : Int) (n : Nat) : ∀ f : Nat, rowN (f + 1 + n) ⟨⟨0, ((f + 1 : Nat) : Int)⟩ :: t, m⟩ = List.replicate (f + 1) true ++ rowN n ⟨t, m⟩
  | 0 => by
    have e : next ⟨⟨0, ((0 + 1 : Nat) : Int)⟩ :: t, m⟩ = (⟨t, m⟩, true) := by
      simp only [next]
      rw [if_neg (by omega), if_pos (by omega)]
    rw [show 0 + 1 + n = n + 1 from by omega, rowN]
    simp only [next1, next2, e]
    rfl
  | f + 1 => by
    have e : next ⟨⟨0, ((f + 1 + 1 : Nat) : Int)⟩ :: t, m⟩ = (⟨⟨0, ((f + 1 : Nat) : Int)⟩ :: t, m⟩, true) := by
      simp only [next]
      rw [if_neg (by omega), if_neg (by omega), show ((f + 1 + 1 : Nat) : Int) - 1 = ((f + 1 : Nat) : Int) from by omega]
    rw [show f + 1 + 1 + n = (f + 1 + n) + 1 from by omega, rowN]
    simp only [next1, next2, e]
    rw [row_fail t m n f, List.replicate_succ (n := f + 1), List.cons_append]
theorem row_lay (m : Int) : ∀ (l : List Gap) (n : Nat), (∀ g ∈ l, 0 ≤ g.skip ∧ 1 ≤ g.fail) → rowN ((rows l).length + n) ⟨l, m⟩ = rows l ++ List.replicate n false
  | [], n, _ => by simp [rows, row_none]
  | g :: t, n, h => by
    obtain ⟨h1, h2⟩ := h g List.mem_cons_self
    have ih := row_lay m t n fun x hx => h x (List.mem_cons_of_mem _ hx)
    obtain ⟨s, f⟩ := g
    obtain ⟨s, rfl⟩ : ∃ k : Nat, s = k := ⟨s.toNat, by simp only at h1; omega⟩
    obtain ⟨f, rfl⟩ : ∃ k : Nat, f = ((k + 1 : Nat) : Int) := ⟨f.toNat - 1, by simp only at h2; omega⟩
    simp only [rows, lay, Int.toNat_natCast, List.length_append, List.length_replicate]
    rw [show s + (f + 1) + (rows t).length + n = s + (f + 1 + ((rows t).length + n)) from by omega, row_skip, row_fail, ih]
    simp only [List.append_assoc]

/-! ### Counting a row -/
structure Cnt where
  all : Nat
  now : Nat
  most : Nat
def cstep (c : Cnt) (b : Bool) : Cnt := bif b then ⟨c.all + 1, c.now + 1, max c.most (c.now + 1)⟩ else ⟨c.all, 0, c.most⟩
theorem cstep_false : ∀ (n : Nat) (c : Cnt), (List.replicate n false).foldl cstep c = if n = 0 then c else ⟨c.all, 0, c.most⟩
  | 0, c => rfl
  | n + 1, c => by
    rw [List.replicate_succ, List.foldl_cons, cstep_false n]
    split <;> simp [cstep]
theorem cstep_true : ∀ (n : Nat) (c : Cnt), (List.replicate n true).foldl cstep c = if n = 0 then c else ⟨c.all + n, c.now + n, max c.most (c.now + n)⟩
  | 0, c => rfl
  | n + 1, c => by
    rw [List.replicate_succ, List.foldl_cons, cstep_true n]
    simp only [cstep, cond_true]
    split
    · rename_i h; subst h; simp
    · simp only [Nat.add_one_ne_zero, if_false, Cnt.mk.injEq]
      refine ⟨by omega, by omega, by omega⟩
theorem cnt_rows : ∀ (l : List Gap) (c : Cnt), (∀ g ∈ l, 0 ≤ g.skip ∧ 1 ≤ g.fail ∧ g.fail ≤ 1000) → c.all + 1000 * l.length ≤ 1000000000 → c.now + 1000 * l.length ≤ 1000000000 →
    l.foldl leftStep (c.all : Int) = (((rows l).foldl cstep c).all : Int) ∧ l.foldl longStep ((c.most : Int), (c.now : Int)) = ((((rows l).foldl cstep c).most : Int), (((rows l).foldl cstep c).now : Int))
  | [], c, _, _, _ => ⟨rfl, rfl⟩
  | g :: t, c, h, h1, h2 => by
    obtain ⟨a1, a2, a3⟩ := h g List.mem_cons_self
    simp only [List.length_cons] at h1 h2
    obtain ⟨s, f⟩ := g
    simp only at a1 a2 a3
    obtain ⟨s, rfl⟩ : ∃ k : Nat, s = k := ⟨s.toNat, by omega⟩
    obtain ⟨f, rfl⟩ : ∃ k : Nat, f = k := ⟨f.toNat, by omega⟩
    have hf : f ≠ 0 := by omega
    let now' : Nat := if s = 0 then c.now else 0
    have hn : now' ≤ c.now := by simp only [now']; split <;> omega
    have e : (lay ⟨s, f⟩).foldl cstep c = ⟨c.all + f, now' + f, max c.most (now' + f)⟩ := by
      simp only [lay, Int.toNat_natCast, List.foldl_append, cstep_false, cstep_true, if_neg hf, now']
      split <;> rfl
    have ih := cnt_rows t ⟨c.all + f, now' + f, max c.most (now' + f)⟩ (fun x hx => h x (List.mem_cons_of_mem _ hx)) (by simp only; omega) (by simp only; omega)
    have hw : (if (0 : Int) < (s : Int) then (0 : Int) else (c.now : Int)) = (now' : Int) := by
      simp only [now']
      by_cases h0 : s = 0
      · subst h0; simp
      · rw [if_pos (by omega), if_neg h0]; rfl
    have e1 : leftStep (c.all : Int) ⟨s, f⟩ = ((c.all + f : Nat) : Int) := w64_id (by simp only; omega) (by simp only; omega)
    have e2 : longStep ((c.most : Int), (c.now : Int)) ⟨s, f⟩ = (((max c.most (now' + f) : Nat) : Int), ((now' + f : Nat) : Int)) := by
      simp only [longStep, hw]
      rw [w64_id (by omega) (by omega)]
      congr 1
      split <;> omega
    simp only [List.foldl_cons, rows, List.foldl_append, e, e1, e2]
    exact ih

def sumG : List Gap → Int
  | [] => 0
  | g :: t => g.skip + g.fail + sumG t
theorem rows_len : ∀ (l : List Gap), (∀ g ∈ l, 0 ≤ g.skip ∧ 1 ≤ g.fail) → ((rows l).length : Int) = sumG l
  | [], _ => rfl
  | g :: t, h => by
    obtain ⟨h1, h2⟩ := h g List.mem_cons_self
    have ih := rows_len t fun x hx => h x (List.mem_cons_of_mem _ hx)
    simp only [rows, lay, sumG, List.length_append, List.length_replicate]
    omega
theorem sumG_app : ∀ (l : List Gap) (g : Gap), sumG (l ++ [g]) = sumG l + (g.skip + g.fail)
  | [], g => by simp [sumG]
  | x :: t, g => by simp only [List.cons_append, sumG, sumG_app t g]; omega
theorem tot_add {b : Int} (hb : b ≤ 1000000) {p : Plan} {g : Gap} (h : okQ b p) (hg : smallG g = true) : (add p g).more + sumG (add p g).l ≤ p.more + sumG p.l + 60 := by
  obtain ⟨⟨h1, h2, h3⟩, h4⟩ := h
  simp only [smallG, Bool.and_eq_true, decide_eq_true_eq] at hg
  have hs := near_le g.skip
  have hf := near_le g.fail
  have s30 : near g.skip ≤ 30 := by unfold near; split <;> (try split) <;> omega
  have f30 : near g.fail ≤ 30 := by unfold near; split <;> (try split) <;> omega
  unfold add
  split
  · omega
  · rw [w64_id (by omega) (by omega)]
    split
    · simp only; omega
    · simp only [sumG_app]; omega
theorem tot_fold : ∀ (l : List Gap) (b : Int) (p : Plan), 0 ≤ b → okQ b p → b + 1000 * l.length ≤ 1000000 → l.all smallG = true → (l.foldl add p).more + sumG (l.foldl add p).l ≤ p.more + sumG p.l + 60 * l.length
  | [], b, p, _, _, _, _ => by simp
  | g :: l, b, p, hb, h, hl, hs => by
    simp only [List.length_cons, List.foldl_cons, List.all_cons, Bool.and_eq_true] at hl hs ⊢
    have h1 := tot_add (by omega) h hs.1
    have h2 := tot_fold l (b + 1000) (add p g) (by omega) (okQ_add hb (by omega) h) (by omega) hs.2
    omega

noncomputable def lleft_W : FnW E := fn1 (E := E) .l_ref34_Gap .bool (fun _ => true) (fun _ => true)
def lleft_id : FuncId := 8
noncomputable def lleft_O : Oracle E := orac [(31, fleft_W), (32, flong_W), (30, fof_W), (29, frow_W), (22, lsmall_W), (23, lawake_W)] []
noncomputable def lleft_H : Hint E := Hint.mk [(0, [0, 3, 4]), (1, [5, 6, 7, 8, 9, 10])] [] [(0, [(3, none, true, .fault_Gap)])]
noncomputable def lleft_C0 (v0 : List Gap) (v1 : List Gap) (v2 : Int) : ASt E := ASt.mk 64 [(0, .d (.slice .ref34_Gap v0)), (3, .grow .fault_Gap v1 0), (4, .d (.int .i64 v2))] [(0, .tail true)] 1
noncomputable def lleft_C1 (v0 : List Bool) (v1 : Int) (v2 : Int) (v3 : Int) (v4 : Int) (v5 : List Gap) (v6 : Int) : ASt E := ASt.mk 64 [(5, .ptr 0 0), (6, .d (.slice .bool v0)), (7, .d (.int .i64 v1)), (8, .d (.int .i64 v2)), (9, .d (.int .i64 v3)), (10, .d (.int .i64 v4))] [(0, .box [.d (.slice .fault_Gap v5), .d (.int .i64 v6)])] 1
noncomputable def lleft_t (G : Nat → ASt E → Option (List (TV E))) (x0 : List Gap) : Option (List (TV E)) :=
  bif (!(small x0)) then some [⟨.bool, true⟩] else G 0 (lleft_C0 x0 ([] : List Gap) (0 : Int))
theorem lleft_e (G : Nat → ASt E → Option (List (TV E))) (x0 : List Gap) : runE lleft_O lleft_H G Try.f8 [⟨.l_ref34_Gap, x0⟩] = lleft_t G x0 := by kernel_rfl
noncomputable def lleft_t0 (G : Nat → ASt E → Option (List (TV E))) (v0 : List Gap) (v1 : List Gap) (v2 : Int) : Option (List (TV E)) :=
  bif (decide (v2 < (v0.length : Int))) then (bif (decide ((0 : Int) ≤ v2) && decide (v2 < (v0.length : Int))) then (bif (decide ((v1.length + ([(List.getD v0 (Int.toNat v2) (dflt .ref34_Gap))] : List Gap).length) * 16 ≤ maxBytes)) then G 0 (lleft_C0 v0 (v1 ++ ([(List.getD v0 (Int.toNat v2) (dflt .ref34_Gap))] : List Gap)) (w64 (v2 + (1 : Int)))) else none) else none) else (bif (len1000 v1) then (bif ((fun p _ => okP p) (ofL v1) (5000 : Int)) then G 1 (lleft_C1 (row (ofL v1) (5000 : Int)) (0 : Int) (0 : Int) (0 : Int) (0 : Int) ((ofL v1).l) ((ofL v1).more)) else none) else none)
theorem lleft_l0 (G : Nat → ASt E → Option (List (TV E))) (v0 : List Gap) (v1 : List Gap) (v2 : Int) : runL lleft_O lleft_H G Try.f8 0 (lleft_C0 v0 v1 v2) = lleft_t0 G v0 v1 v2 := by kernel_rfl
noncomputable def lleft_t1 (G : Nat → ASt E → Option (List (TV E))) (v0 : List Bool) (v1 : Int) (v2 : Int) (v3 : Int) (v4 : Int) (v5 : List Gap) (v6 : Int) : Option (List (TV E)) :=
  bif (decide (v4 < (v0.length : Int))) then (bif (decide ((0 : Int) ≤ v4) && decide (v4 < (v0.length : Int))) then (bif (!(List.getD v0 (Int.toNat v4) (dflt .bool))) then G 1 (lleft_C1 v0 v1 (0 : Int) v3 (w64 (v4 + (1 : Int))) v5 v6) else (bif (decide (v3 < (w64 (v2 + (1 : Int))))) then G 1 (lleft_C1 v0 (w64 (v1 + (1 : Int))) (w64 (v2 + (1 : Int))) (w64 (v2 + (1 : Int))) (w64 (v4 + (1 : Int))) v5 v6) else G 1 (lleft_C1 v0 (w64 (v1 + (1 : Int))) (w64 (v2 + (1 : Int))) v3 (w64 (v4 + (1 : Int))) v5 v6))) else none) else (bif (pl1000 (⟨v5, v6⟩ : Plan)) then (bif ((pl1000 (⟨v5, v6⟩ : Plan)) || !((left (⟨v5, v6⟩ : Plan)) == v1)) then some [⟨.bool, (bif (bif ((left (⟨v5, v6⟩ : Plan)) == v1) then ((longest (⟨v5, v6⟩ : Plan)) == v3) else false) then true else false)⟩] else none) else none)
theorem lleft_l1 (G : Nat → ASt E → Option (List (TV E))) (v0 : List Bool) (v1 : Int) (v2 : Int) (v3 : Int) (v4 : Int) (v5 : List Gap) (v6 : Int) : runL lleft_O lleft_H G Try.f8 1 (lleft_C1 v0 v1 v2 v3 v4 v5 v6) = lleft_t1 G v0 v1 v2 v3 v4 v5 v6 := by kernel_rfl
theorem lleft_f : Try.prog.funcs[8]? = some Try.f8 := by kernel_rfl
theorem lleft_n : (Try.f8.name == "runtime.NumGoroutine") = false := by kernel_rfl
theorem lleft_b : Try.f8.body.isNone = false := by kernel_rfl
theorem lleft_hO : OracleOk E lleft_O := orac_ok (.cons fleft_ok (.cons flong_ok (.cons fof_ok (.cons frow_ok (.cons lsmall_ok (.cons lawake_ok .nil)))))) .nil
theorem lleft_s0 {res : List (TV E)} {v0 : List Gap} {v1 : List Gap} {v2 : Int} (h : lleft_t0 (Gr E Try.f8 res) v0 v1 v2 = some res) : Ev E Try.f8 res 0 (lleft_C0 v0 v1 v2) := Ev.step lleft_hO mix ((lleft_l0 _ v0 v1 v2).trans h)
theorem lleft_s1 {res : List (TV E)} {v0 : List Bool} {v1 : Int} {v2 : Int} {v3 : Int} {v4 : Int} {v5 : List Gap} {v6 : Int} (h : lleft_t1 (Gr E Try.f8 res) v0 v1 v2 v3 v4 v5 v6 = some res) : Ev E Try.f8 res 1 (lleft_C1 v0 v1 v2 v3 v4 v5 v6) := Ev.step lleft_hO mix ((lleft_l1 _ v0 v1 v2 v3 v4 v5 v6).trans h)
theorem lleft_ok_of (h : ∀ (x0 : List Gap), lleft_t (Gr E Try.f8 [⟨.bool, (fun _ => true) x0⟩]) x0 = some [⟨.bool, (fun _ => true) x0⟩]) : FnOk E lleft_id lleft_W := fn1_ok lleft_hO mix lleft_f lleft_n lleft_b (fun x0 _ => (lleft_e _ x0).trans (h x0))
theorem lleft_1 (R : List Bool) (p : Plan) (hR : R.length ≤ 5000) (hp : p.l.length ≤ 1000) (H1 : left p = ((R.foldl cstep ⟨0, 0, 0⟩).all : Int)) (H2 : longest p = ((R.foldl cstep ⟨0, 0, 0⟩).most : Int)) : ∀ (m i : Nat) (c : Cnt), R.length - i = m → i ≤ R.length →
    c = (R.take i).foldl cstep ⟨0, 0, 0⟩ → c.all ≤ i → c.now ≤ i → Ev E Try.f8 [⟨.bool, true⟩] 1 (lleft_C1 R c.all c.now c.most i p.l p.more) := by
  intro m
  induction m with
  | zero =>
    intro i c h1 h2 hc h3 h4
    have e : i = R.length := by omega
    subst e
    rw [List.take_length] at hc
    rw [← hc] at H1 H2
    refine lleft_s1 ?_
    have b1 : decide ((R.length : Int) < (R.length : Int)) = false := by simp
    have k : pl1000 ⟨p.l, p.more⟩ = true := by simp only [pl1000, decide_eq_true_eq]; exact hp
    have e2 : (⟨p.l, p.more⟩ : Plan) = p := rfl
    rw [e2] at k
    simp only [lleft_t1, b1, cond_false, e2, k, cond_true, Bool.true_or, H1, H2, BEq.rfl]
  | succ m ih =>
    intro i c h1 h2 hc h3 h4
    have hi : i < R.length := by omega
    refine lleft_s1 ?_
    have b1 : decide ((i : Int) < (R.length : Int)) = true := by simp only [decide_eq_true_eq]; omega
    have b2 : decide ((0 : Int) ≤ (i : Int)) = true := by simp only [decide_eq_true_eq]; omega
    have w1 : w64 ((i : Int) + 1) = ((i + 1 : Nat) : Int) := w64_id (by omega) (by omega)
    have w2 : w64 ((c.all : Int) + 1) = ((c.all + 1 : Nat) : Int) := w64_id (by omega) (by omega)
    have w3 : w64 ((c.now : Int) + 1) = ((c.now + 1 : Nat) : Int) := w64_id (by omega) (by omega)
    have e1 : List.getD R (Int.toNat (i : Int)) (dflt .bool) = R[i] := by rw [Int.toNat_natCast, List.getD, List.getElem?_eq_getElem hi]; rfl
    have e2 : (R.take (i + 1)).foldl cstep ⟨0, 0, 0⟩ = cstep c R[i] := by rw [← List.take_append_getElem hi, List.foldl_append, ← hc]; rfl
    simp only [lleft_t1, b1, b2, cond_true, Bool.true_and, e1, w1, w2, w3]
    cases hb : R[i] with
    | false =>
      rw [hb] at e2
      exact Gr_of (ih (i + 1) ⟨c.all, 0, c.most⟩ (by omega) (by omega) e2.symm (by simp only; omega) (by simp only; omega))
    | true =>
      rw [hb] at e2
      have hx := ih (i + 1) ⟨c.all + 1, c.now + 1, max c.most (c.now + 1)⟩ (by omega) (by omega) e2.symm (by simp only; omega) (by simp only; omega)
      simp only [Bool.not_true, cond_false]
      by_cases hm : c.most < c.now + 1
      · have b3 : decide ((c.most : Int) < ((c.now + 1 : Nat) : Int)) = true := by simp only [decide_eq_true_eq]; omega
        rw [b3, cond_true]
        rw [show max c.most (c.now + 1) = c.now + 1 from by omega] at hx
        exact Gr_of hx
      · have b3 : decide ((c.most : Int) < ((c.now + 1 : Nat) : Int)) = false := by simp only [decide_eq_false_iff_not]; omega
        rw [b3, cond_false]
        rw [show max c.most (c.now + 1) = c.most from by omega] at hx
        exact Gr_of hx
theorem left_plan (l : List Gap) (hs : small l = true) : left (ofL l) = (((row (ofL l) 5000).foldl cstep ⟨0, 0, 0⟩).all : Int) ∧ longest (ofL l) = (((row (ofL l) 5000).foldl cstep ⟨0, 0, 0⟩).most : Int) := by
  have hl := small_len hs
  simp only [small, Bool.and_eq_true, decide_eq_true_eq] at hs
  have hq := okQ_of hl
  have ht := tot_fold l 0 ⟨[], 0⟩ (by omega) ⟨⟨by simp, by simp, by simp⟩, fun g hg => by simp at hg⟩ (by omega) hs.2
  change (ofL l).more + sumG (ofL l).l ≤ 0 + 0 + 60 * (l.length : Int) at ht
  obtain ⟨⟨q1, q2, q3⟩, q4⟩ := hq
  have hpos : ∀ g ∈ (ofL l).l, 0 ≤ g.skip ∧ 1 ≤ g.fail := fun g hg => ⟨(q4 g hg).1, (q4 g hg).2.2.1⟩
  have hlen := rows_len (ofL l).l hpos
  have hr : row (ofL l) 5000 = rows (ofL l).l ++ List.replicate (5000 - (rows (ofL l).l).length) false := by
    have := row_lay (ofL l).more (ofL l).l (5000 - (rows (ofL l).l).length) hpos
    rw [show (rows (ofL l).l).length + (5000 - (rows (ofL l).l).length) = 5000 from by omega] at this
    exact this
  obtain ⟨c1, c2⟩ := cnt_rows (ofL l).l ⟨0, 0, 0⟩ (fun g hg => ⟨(q4 g hg).1, (q4 g hg).2.2⟩) (by simp only; omega) (by simp only; omega)
  rw [hr, List.foldl_append, cstep_false]
  refine ⟨?_, ?_⟩
  · have : left (ofL l) = (((rows (ofL l).l).foldl cstep ⟨0, 0, 0⟩).all : Int) := c1
    rw [this]
    split <;> rfl
  · have : longest (ofL l) = (((rows (ofL l).l).foldl cstep ⟨0, 0, 0⟩).most : Int) := congrArg Prod.fst c2
    rw [this]
    split <;> rfl
theorem lleft_0 (l : List Gap) (hs : small l = true) : ∀ (m i : Nat), l.length - i = m → i ≤ l.length → Ev E Try.f8 [⟨.bool, true⟩] 0 (lleft_C0 l (l.take i) i) := by
  have hm' : maxBytes = 140737488355328 := rfl
  have hl := small_len hs
  intro m
  induction m with
  | zero =>
    intro i h1 h2
    have e : i = l.length := by omega
    subst e
    refine lleft_s0 ?_
    have k1 : okP (ofL l) = true := okQ_okP (okQ_of hl) (by omega)
    have k0 : len1000 l = true := by simp only [len1000, decide_eq_true_eq]; omega
    have b1 : decide ((l.length : Int) < (l.length : Int)) = false := by simp
    obtain ⟨H1, H2⟩ := left_plan l hs
    have hq := okQ_of hl
    simp only [lleft_t0, b1, cond_false, List.take_length, k0, k1, cond_true]
    exact Gr_of (lleft_1 (row (ofL l) 5000) (ofL l) (by rw [row_len]; decide) (by have := hq.1.2.2; omega) H1 H2 _ 0 ⟨0, 0, 0⟩ rfl (Nat.zero_le _) rfl (Nat.le_refl _) (Nat.le_refl _))
  | succ m ih =>
    intro i h1 h2
    have hi : i < l.length := by omega
    refine lleft_s0 ?_
    have hlen : (l.take i).length = i := by rw [List.length_take]; omega
    have e1 : List.getD l (Int.toNat (i : Int)) (dflt .ref34_Gap) = l[i] := by rw [Int.toNat_natCast, List.getD, List.getElem?_eq_getElem hi]; rfl
    simp only [lleft_t0, Bool.cond_eq_ite, decide_eq_true_eq, Bool.and_eq_true, e1, hlen, List.length_cons, List.length_nil]
    rw [if_pos (by omega), if_pos (by omega), if_pos (by omega), w64_id (by omega) (by omega), List.take_append_getElem hi]
    exact Gr_of (ih (i + 1) (by omega) (by omega))
theorem lleft_ok : FnOk E lleft_id lleft_W := lleft_ok_of fun l => by
  change lleft_t (Gr E Try.f8 [⟨.bool, true⟩]) l = some [⟨.bool, true⟩]
  simp only [lleft_t]
  cases hs : small l with
  | false => simp
  | true =>
    simp only [Bool.not_true, cond_false]
    exact Gr_of (lleft_0 l hs l.length 0 (by omega) (by omega))
end Go.Proofs.Ytnkdghkliihnaaa.Fa
