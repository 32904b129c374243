/- The reference's fields (18), by the Mirror: health, single texts, any field. -/
import Derived.Test.YtoelhlikomifjaaGreatR14
namespace Go.Proofs.YtoelhlikomifjaaGreat.Rf
open Go Go.RowKit Go.Sort Go.Proofs.YtoelhlikomifjaaGreat.Mir
/-! ### The reference's health, single texts, and any field (18) -/
noncomputable def r18test_O : Oracle E := orac [(97, rwjoin_W), (29, r18texts_W)] [] [] []
noncomputable def r18test_H : Hint E := Hint.mk [] [] [] [] []
noncomputable def r18test_t (_G : Nat → ASt E → Option (List (TV E))) (x0 : Node) : Option (List (TV E)) :=
  bif (x0.kind == (1 : Int)) then some [⟨.str, x0.text⟩, ⟨.int, (1 : Int)⟩] else (bif (okN (⟨x0.kind, x0.text, x0.keys, x0.kids⟩ : Node)) then (bif (bif (!(r18texts_r1 (⟨x0.kind, x0.text, x0.keys, x0.kids⟩ : Node))) then true else (((r18texts_r0 (⟨x0.kind, x0.text, x0.keys, x0.kids⟩ : Node)).length : Int) == (0 : Int))) then some [⟨.str, ([] : List UInt8)⟩, ⟨.int, (0 : Int)⟩] else (bif (decide ((0 : Int) ≤ (0 : Int)) && decide ((0 : Int) < ((r18texts_r0 (⟨x0.kind, x0.text, x0.keys, x0.kids⟩ : Node)).length : Int))) then (bif (bif ((List.getD (r18texts_r0 (⟨x0.kind, x0.text, x0.keys, x0.kids⟩ : Node)) (Int.toNat (0 : Int)) (dflt .str)) == ([78, 79, 78, 69] : List UInt8)) then (((r18texts_r0 (⟨x0.kind, x0.text, x0.keys, x0.kids⟩ : Node)).length : Int) == (1 : Int)) else false) then some [⟨.str, ([] : List UInt8)⟩, ⟨.int, (2 : Int)⟩] else (bif (decide ((0 : Int) ≤ (0 : Int)) && decide ((0 : Int) < ((r18texts_r0 (⟨x0.kind, x0.text, x0.keys, x0.kids⟩ : Node)).length : Int))) then (bif (bif ((List.getD (r18texts_r0 (⟨x0.kind, x0.text, x0.keys, x0.kids⟩ : Node)) (Int.toNat (0 : Int)) (dflt .str)) == ([67, 77, 68, 45, 83, 72, 69, 76, 76] : List UInt8)) then (((r18texts_r0 (⟨x0.kind, x0.text, x0.keys, x0.kids⟩ : Node)).length : Int) == (2 : Int)) else false) then (bif (decide ((0 : Int) ≤ (1 : Int)) && decide ((1 : Int) < ((r18texts_r0 (⟨x0.kind, x0.text, x0.keys, x0.kids⟩ : Node)).length : Int))) then some [⟨.str, (List.getD (r18texts_r0 (⟨x0.kind, x0.text, x0.keys, x0.kids⟩ : Node)) (Int.toNat (1 : Int)) (dflt .str))⟩, ⟨.int, (1 : Int)⟩] else none) else (bif (decide ((0 : Int) ≤ (0 : Int)) && decide ((0 : Int) < ((r18texts_r0 (⟨x0.kind, x0.text, x0.keys, x0.kids⟩ : Node)).length : Int))) then (bif (bif ((List.getD (r18texts_r0 (⟨x0.kind, x0.text, x0.keys, x0.kids⟩ : Node)) (Int.toNat (0 : Int)) (dflt .str)) == ([67, 77, 68] : List UInt8)) then (decide ((1 : Int) < ((r18texts_r0 (⟨x0.kind, x0.text, x0.keys, x0.kids⟩ : Node)).length : Int))) else false) then (bif (decide ((0 : Int) ≤ (1 : Int)) && decide ((1 : Int) ≤ ((r18texts_r0 (⟨x0.kind, x0.text, x0.keys, x0.kids⟩ : Node)).length : Int)) && decide (((r18texts_r0 (⟨x0.kind, x0.text, x0.keys, x0.kids⟩ : Node)).length : Int) ≤ ((r18texts_r0 (⟨x0.kind, x0.text, x0.keys, x0.kids⟩ : Node)).length : Int))) then (bif (okJ (List.take (Int.toNat ((r18texts_r0 (⟨x0.kind, x0.text, x0.keys, x0.kids⟩ : Node)).length : Int) - Int.toNat (1 : Int)) (List.drop (Int.toNat (1 : Int)) (r18texts_r0 (⟨x0.kind, x0.text, x0.keys, x0.kids⟩ : Node))))) then some [⟨.str, (rwjoin_r0 (List.take (Int.toNat ((r18texts_r0 (⟨x0.kind, x0.text, x0.keys, x0.kids⟩ : Node)).length : Int) - Int.toNat (1 : Int)) (List.drop (Int.toNat (1 : Int)) (r18texts_r0 (⟨x0.kind, x0.text, x0.keys, x0.kids⟩ : Node)))))⟩, ⟨.int, (1 : Int)⟩] else none) else none) else some [⟨.str, ([] : List UInt8)⟩, ⟨.int, (0 : Int)⟩]) else none)) else none)) else none)) else none)
theorem r18test_e (G : Nat → ASt E → Option (List (TV E))) (x0 : Node) : runE r18test_O r18test_H G Tryz.f71 [⟨.api_Node, x0⟩] = r18test_t G x0 := by kernel_rfl
theorem r18test_f : Tryz.prog.funcs[71]? = some Tryz.f71 := by kernel_rfl
theorem r18test_n : (Tryz.f71.name == "runtime.NumGoroutine") = false := by kernel_rfl
theorem r18test_b : Tryz.f71.body.isNone = false := by kernel_rfl
theorem r18test_ex : ∃ fn, Tryz.prog.funcs[71]? = some fn ∧ (fn.name == "runtime.NumGoroutine") = false ∧ fn.body.isNone = false := ⟨Tryz.f71, r18test_f, r18test_n, r18test_b⟩
theorem r18test_hO : OracleOk E r18test_O := orac_ok (.cons rwjoin_ok (.cons r18texts_ok .nil)) .nil .nil .nil
def r18test_any (x0 : Node) (p : (List UInt8) × Int) : Prop := r18test_t (Gr E Tryz.f71 [⟨.str, p.1⟩, ⟨.int, p.2⟩]) x0 = some [⟨.str, p.1⟩, ⟨.int, p.2⟩]
noncomputable def r18test_p (x0 : Node) : (List UInt8) × Int := @Classical.epsilon _ ⟨(dflt .str, dflt .int)⟩ (r18test_any x0)
noncomputable def r18test_r0 (x0 : Node) : List UInt8 := (r18test_p x0).1
noncomputable def r18test_r1 (x0 : Node) : Int := (r18test_p x0).2
theorem r18test_spec (x0 : Node) (h : ∃ p, r18test_any x0 p) : r18test_any x0 (r18test_p x0) := Classical.epsilon_spec h
noncomputable def r18test_W : FnW E := fn12 (E := E) .api_Node .str .int okN r18test_r0 r18test_r1
def r18test_id : FuncId := 71
theorem r18test_ok_of (h : ∀ (x0 : Node), okN x0 = true → r18test_t (Gr E Tryz.f71 [⟨.str, r18test_r0 x0⟩, ⟨.int, r18test_r1 x0⟩]) x0 = some [⟨.str, r18test_r0 x0⟩, ⟨.int, r18test_r1 x0⟩]) : FnOk E r18test_id r18test_W := fn12_ok r18test_hO mix r18test_f r18test_n r18test_b (fun x0 hk => (r18test_e _ x0).trans (h x0 hk))
theorem r18test_ok : FnOk E r18test_id r18test_W := r18test_ok_of fun n hn => by
  have : ∃ p, r18test_any n p := by
    unfold r18test_any
    obtain ⟨q1, q2⟩ := r18texts_pr hn
    simp only [r18test_t, node_eta, hn, cond_true]
    cases n.kind == 1 with
    | true => exact ⟨(_, _), rfl⟩
    | false =>
      simp only [cond_false]
      generalize r18texts_r0 n = l at *
      cases r18texts_r1 n with
      | false => exact ⟨(_, _), rfl⟩
      | true =>
        by_cases h0 : l.length = 0
        · rw [eqT (show (l.length : Int) = 0 by omega)]; exact ⟨(_, _), rfl⟩
        · have oj : okJ (l.drop 1) = true := okJ_iff.2 ⟨by simp only [List.length_drop]; omega, fun x hx => by have := q2 x (List.mem_of_mem_drop hx); omega⟩
          have k1 : List.take (Int.toNat (l.length : Int) - Int.toNat 1) (List.drop (Int.toNat 1) l) = l.drop 1 := cutN l 1
          simp only [eqF (show (l.length : Int) ≠ 0 by omega), Bool.not_true, cond_false, dT (show (0 : Int) < (l.length : Int) by omega), d00, Bool.and_self, cond_true, k1, oj, dlr, show decide ((0 : Int) ≤ 1) = true from rfl, Bool.true_and, Bool.and_true]
          by_cases h2 : l.length = 1
          · simp only [eqT (show (l.length : Int) = 1 by omega), eqF (show (l.length : Int) ≠ 2 by omega), dF (show ¬ (1 : Int) < (l.length : Int) by omega)]
            generalize List.getD l (Int.toNat 0) (dflt .str) = a
            cases a == [78, 79, 78, 69] <;> cases a == [67, 77, 68, 45, 83, 72, 69, 76, 76] <;> cases a == [67, 77, 68] <;> exact ⟨(_, _), rfl⟩
          · simp only [eqF (show (l.length : Int) ≠ 1 by omega), dT (show (1 : Int) < (l.length : Int) by omega), dT (show (1 : Int) ≤ (l.length : Int) by omega)]
            generalize List.getD l (Int.toNat 0) (dflt .str) = a
            generalize ((l.length : Int) == 2) = b
            cases a == [78, 79, 78, 69] <;> cases a == [67, 77, 68, 45, 83, 72, 69, 76, 76] <;> cases a == [67, 77, 68] <;> cases b <;> exact ⟨(_, _), rfl⟩
  exact r18test_spec n this
def okSp (n : Node) (_ : List UInt8) (_ : Int) : Bool := okN n
noncomputable def r18span_O : Oracle E := orac [(98, rdparse_W), (99, rdtext_W), (31, rget_W), (69, r18field_W)] [] [] []
noncomputable def r18span_H : Hint E := Hint.mk [] [] [] [] []
noncomputable def r18span_t (_G : Nat → ASt E → Option (List (TV E))) (x0 : Node) (x1 : List UInt8) (x2 : Int) : Option (List (TV E)) :=
  bif ((fun n _ => fit n) (⟨x0.kind, x0.text, x0.keys, x0.kids⟩ : Node) x1) then (bif (!(getB (⟨x0.kind, x0.text, x0.keys, x0.kids⟩ : Node) x1)) then some [⟨.str, ([] : List UInt8)⟩, ⟨.bool, true⟩] else (bif (okFl (⟨x0.kind, x0.text, x0.keys, x0.kids⟩ : Node) x1 ([] : List UInt8)) then (bif (okL1 (fldV (⟨x0.kind, x0.text, x0.keys, x0.kids⟩ : Node) x1 ([] : List UInt8))) then some [⟨.str, (rdtext_r0 (rdparse_r0 (fldV (⟨x0.kind, x0.text, x0.keys, x0.kids⟩ : Node) x1 ([] : List UInt8))))⟩, ⟨.bool, (bif (bif (fldB (⟨x0.kind, x0.text, x0.keys, x0.kids⟩ : Node) x1 ([] : List UInt8)) then ((rdparse_r1 (fldV (⟨x0.kind, x0.text, x0.keys, x0.kids⟩ : Node) x1 ([] : List UInt8))) == (0 : Int)) else false) then (decide (x2 ≤ (rdparse_r0 (fldV (⟨x0.kind, x0.text, x0.keys, x0.kids⟩ : Node) x1 ([] : List UInt8))))) else false)⟩] else none) else none)) else none
theorem r18span_e (G : Nat → ASt E → Option (List (TV E))) (x0 : Node) (x1 : List UInt8) (x2 : Int) : runE r18span_O r18span_H G Tryz.f72 [⟨.api_Node, x0⟩, ⟨.str, x1⟩, ⟨.int, x2⟩] = r18span_t G x0 x1 x2 := by kernel_rfl
theorem r18span_f : Tryz.prog.funcs[72]? = some Tryz.f72 := by kernel_rfl
theorem r18span_n : (Tryz.f72.name == "runtime.NumGoroutine") = false := by kernel_rfl
theorem r18span_b : Tryz.f72.body.isNone = false := by kernel_rfl
theorem r18span_ex : ∃ fn, Tryz.prog.funcs[72]? = some fn ∧ (fn.name == "runtime.NumGoroutine") = false ∧ fn.body.isNone = false := ⟨Tryz.f72, r18span_f, r18span_n, r18span_b⟩
theorem r18span_hO : OracleOk E r18span_O := orac_ok (.cons rdparse_ok (.cons rdtext_ok (.cons rget_ok (.cons r18field_ok .nil)))) .nil .nil .nil
def r18span_any (x0 : Node) (x1 : List UInt8) (x2 : Int) (p : (List UInt8) × Bool) : Prop := r18span_t (Gr E Tryz.f72 [⟨.str, p.1⟩, ⟨.bool, p.2⟩]) x0 x1 x2 = some [⟨.str, p.1⟩, ⟨.bool, p.2⟩]
noncomputable def r18span_p (x0 : Node) (x1 : List UInt8) (x2 : Int) : (List UInt8) × Bool := @Classical.epsilon _ ⟨(dflt .str, dflt .bool)⟩ (r18span_any x0 x1 x2)
noncomputable def r18span_r0 (x0 : Node) (x1 : List UInt8) (x2 : Int) : List UInt8 := (r18span_p x0 x1 x2).1
noncomputable def r18span_r1 (x0 : Node) (x1 : List UInt8) (x2 : Int) : Bool := (r18span_p x0 x1 x2).2
theorem r18span_spec (x0 : Node) (x1 : List UInt8) (x2 : Int) (h : ∃ p, r18span_any x0 x1 x2 p) : r18span_any x0 x1 x2 (r18span_p x0 x1 x2) := Classical.epsilon_spec h
noncomputable def r18span_W : FnW E := fn32 (E := E) .api_Node .str .int .str .bool okSp r18span_r0 r18span_r1
def r18span_id : FuncId := 72
theorem r18span_ok_of (h : ∀ (x0 : Node) (x1 : List UInt8) (x2 : Int), okSp x0 x1 x2 = true → r18span_t (Gr E Tryz.f72 [⟨.str, r18span_r0 x0 x1 x2⟩, ⟨.bool, r18span_r1 x0 x1 x2⟩]) x0 x1 x2 = some [⟨.str, r18span_r0 x0 x1 x2⟩, ⟨.bool, r18span_r1 x0 x1 x2⟩]) : FnOk E r18span_id r18span_W := fn32_ok r18span_hO mix r18span_f r18span_n r18span_b (fun x0 x1 x2 hk => (r18span_e _ x0 x1 x2).trans (h x0 x1 x2 hk))
theorem r18span_ok : FnOk E r18span_id r18span_W := r18span_ok_of fun n k m hn => by
  have hn : okN n = true := hn
  have : ∃ p, r18span_any n k m p := by
    unfold r18span_any
    have o1 : okL1 (fldV n k []) = true := okL1_iff.2 (fldV_len hn k [] 1000000 (by simp) (by decide))
    simp only [r18span_t, node_eta, okN_fit hn, okN_fl hn, o1, cond_true]
    cases getB n k <;> exact ⟨(_, _), rfl⟩
  exact r18span_spec n k m this
noncomputable def r18health_O : Oracle E := orac [(74, rtext_W), (31, rget_W), (17, rwith_W), (58, r18text_W), (30, r18done_W), (73, r18number_W), (68, r18only_W), (72, r18span_W), (71, r18test_W), (70, r18truth_W)] [] [] []
noncomputable def r18health_H : Hint E := Hint.mk [] [] [] [] []
noncomputable def r18health_t (_G : Nat → ASt E → Option (List (TV E))) (x0 : Node) : Option (List (TV E)) :=
  bif (okOn (⟨x0.kind, x0.text, x0.keys, x0.kids⟩ : Node) ([([116, 101, 115, 116] : List UInt8), ([105, 110, 116, 101, 114, 118, 97, 108] : List UInt8), ([115, 116, 97, 114, 116, 95, 112, 101, 114, 105, 111, 100] : List UInt8), ([114, 101, 116, 114, 105, 101, 115] : List UInt8), ([100, 105, 115, 97, 98, 108, 101] : List UInt8)] : List (List UInt8))) then (let y1 : Bool := (r18only_r0 (⟨x0.kind, x0.text, x0.keys, x0.kids⟩ : Node) ([([116, 101, 115, 116] : List UInt8), ([105, 110, 116, 101, 114, 118, 97, 108] : List UInt8), ([115, 116, 97, 114, 116, 95, 112, 101, 114, 105, 111, 100] : List UInt8), ([114, 101, 116, 114, 105, 101, 115] : List UInt8), ([100, 105, 115, 97, 98, 108, 101] : List UInt8)] : List (List UInt8))); bif (!y1) then some [⟨.api_Node, (⟨(0 : Int), ([] : List UInt8), ([] : List (List UInt8)), ([] : List Node)⟩ : Node)⟩, ⟨.bool, false⟩] else (bif (okFl (⟨x0.kind, x0.text, x0.keys, x0.kids⟩ : Node) ([100, 105, 115, 97, 98, 108, 101] : List UInt8) ([102, 97, 108, 115, 101] : List UInt8)) then (let y2 : List UInt8 := (fldV (⟨x0.kind, x0.text, x0.keys, x0.kids⟩ : Node) ([100, 105, 115, 97, 98, 108, 101] : List UInt8) ([102, 97, 108, 115, 101] : List UInt8)); let y3 : Bool := (truB (⟨x0.kind, x0.text, x0.keys, x0.kids⟩ : Node) ([100, 105, 115, 97, 98, 108, 101] : List UInt8) ([102, 97, 108, 115, 101] : List UInt8)); bif ((fun n _ => fit n) (⟨x0.kind, x0.text, x0.keys, x0.kids⟩ : Node) ([116, 101, 115, 116] : List UInt8)) then (let y4 : Node := (getV (⟨x0.kind, x0.text, x0.keys, x0.kids⟩ : Node) ([116, 101, 115, 116] : List UInt8)); let y5 : Bool := (getB (⟨x0.kind, x0.text, x0.keys, x0.kids⟩ : Node) ([116, 101, 115, 116] : List UInt8)); bif y5 then (bif (okN (⟨y4.kind, y4.text, y4.keys, y4.kids⟩ : Node)) then (let y6 : List UInt8 := (r18test_r0 (⟨y4.kind, y4.text, y4.keys, y4.kids⟩ : Node)); let y7 : Int := (r18test_r1 (⟨y4.kind, y4.text, y4.keys, y4.kids⟩ : Node)); bif (y7 == (0 : Int)) then some [⟨.api_Node, (⟨(0 : Int), ([] : List UInt8), ([] : List (List UInt8)), ([] : List Node)⟩ : Node)⟩, ⟨.bool, false⟩] else (bif (y7 == (2 : Int)) then (bif (okWi (⟨(0 : Int), ([] : List UInt8), ([] : List (List UInt8)), ([] : List Node)⟩ : Node) ([116, 101, 115, 116] : List UInt8) (txtN y6)) then (let y8 : Node := (withV (⟨(0 : Int), ([] : List UInt8), ([] : List (List UInt8)), ([] : List Node)⟩ : Node) ([116, 101, 115, 116] : List UInt8) (txtN y6)); bif (okSp (⟨x0.kind, x0.text, x0.keys, x0.kids⟩ : Node) ([105, 110, 116, 101, 114, 118, 97, 108] : List UInt8) (1 : Int)) then (let y9 : List UInt8 := (r18span_r0 (⟨x0.kind, x0.text, x0.keys, x0.kids⟩ : Node) ([105, 110, 116, 101, 114, 118, 97, 108] : List UInt8) (1 : Int)); let y10 : Bool := (r18span_r1 (⟨x0.kind, x0.text, x0.keys, x0.kids⟩ : Node) ([105, 110, 116, 101, 114, 118, 97, 108] : List UInt8) (1 : Int)); bif (okSp (⟨x0.kind, x0.text, x0.keys, x0.kids⟩ : Node) ([115, 116, 97, 114, 116, 95, 112, 101, 114, 105, 111, 100] : List UInt8) (0 : Int)) then (let y11 : List UInt8 := (r18span_r0 (⟨x0.kind, x0.text, x0.keys, x0.kids⟩ : Node) ([115, 116, 97, 114, 116, 95, 112, 101, 114, 105, 111, 100] : List UInt8) (0 : Int)); let y12 : Bool := (r18span_r1 (⟨x0.kind, x0.text, x0.keys, x0.kids⟩ : Node) ([115, 116, 97, 114, 116, 95, 112, 101, 114, 105, 111, 100] : List UInt8) (0 : Int)); bif (okNm (⟨x0.kind, x0.text, x0.keys, x0.kids⟩ : Node) ([114, 101, 116, 114, 105, 101, 115] : List UInt8)) then (let y13 : Int := (r18number_r0 (⟨x0.kind, x0.text, x0.keys, x0.kids⟩ : Node) ([114, 101, 116, 114, 105, 101, 115] : List UInt8)); let y14 : Bool := (r18number_r1 (⟨x0.kind, x0.text, x0.keys, x0.kids⟩ : Node) ([114, 101, 116, 114, 105, 101, 115] : List UInt8)); bif (bif (bif (bif (bif (!y3) then true else (!y10)) then true else (!y12)) then true else (!y14)) then true else (decide ((10 : Int) < y13))) then some [⟨.api_Node, (⟨(0 : Int), ([] : List UInt8), ([] : List (List UInt8)), ([] : List Node)⟩ : Node)⟩, ⟨.bool, false⟩] else (bif (([116, 114, 117, 101] : List UInt8) == ([116, 114, 117, 101] : List UInt8)) then (let y15 : Node := (txtN ([116, 114, 117, 101] : List UInt8)); some [⟨.api_Node, (⟨(3 : Int), ([] : List UInt8), ([([100, 105, 115, 97, 98, 108, 101] : List UInt8)] : List (List UInt8)), ([y15] : List Node)⟩ : Node)⟩, ⟨.bool, true⟩]) else (bif (!(y9 == ([] : List UInt8))) then (bif (okWi (⟨y8.kind, y8.text, y8.keys, y8.kids⟩ : Node) ([105, 110, 116, 101, 114, 118, 97, 108] : List UInt8) (txtN y9)) then (let y16 : Node := (withV (⟨y8.kind, y8.text, y8.keys, y8.kids⟩ : Node) ([105, 110, 116, 101, 114, 118, 97, 108] : List UInt8) (txtN y9)); bif (!(y11 == ([] : List UInt8))) then (bif (okWi (⟨y16.kind, y16.text, y16.keys, y16.kids⟩ : Node) ([115, 116, 97, 114, 116, 95, 112, 101, 114, 105, 111, 100] : List UInt8) (txtN y11)) then (let y17 : Node := (withV (⟨y16.kind, y16.text, y16.keys, y16.kids⟩ : Node) ([115, 116, 97, 114, 116, 95, 112, 101, 114, 105, 111, 100] : List UInt8) (txtN y11)); bif (decide ((0 : Int) < y13)) then (bif (okI y13) then (let y18 : Node := (txtN (textV y13)); bif (okWi (⟨y17.kind, y17.text, y17.keys, y17.kids⟩ : Node) ([114, 101, 116, 114, 105, 101, 115] : List UInt8) y18) then (let y19 : Node := (withV (⟨y17.kind, y17.text, y17.keys, y17.kids⟩ : Node) ([114, 101, 116, 114, 105, 101, 115] : List UInt8) y18); bif (okDn (⟨y19.kind, y19.text, y19.keys, y19.kids⟩ : Node) true) then (let y20 : Node := (doneV (⟨y19.kind, y19.text, y19.keys, y19.kids⟩ : Node) true); let y21 : Bool := (doneB (⟨y19.kind, y19.text, y19.keys, y19.kids⟩ : Node) true); some [⟨.api_Node, (⟨y20.kind, y20.text, y20.keys, y20.kids⟩ : Node)⟩, ⟨.bool, y21⟩]) else none) else none) else none) else (bif (okDn (⟨y17.kind, y17.text, y17.keys, y17.kids⟩ : Node) true) then (let y22 : Node := (doneV (⟨y17.kind, y17.text, y17.keys, y17.kids⟩ : Node) true); let y23 : Bool := (doneB (⟨y17.kind, y17.text, y17.keys, y17.kids⟩ : Node) true); some [⟨.api_Node, (⟨y22.kind, y22.text, y22.keys, y22.kids⟩ : Node)⟩, ⟨.bool, y23⟩]) else none)) else none) else (bif (decide ((0 : Int) < y13)) then (bif (okI y13) then (let y24 : Node := (txtN (textV y13)); bif (okWi (⟨y16.kind, y16.text, y16.keys, y16.kids⟩ : Node) ([114, 101, 116, 114, 105, 101, 115] : List UInt8) y24) then (let y25 : Node := (withV (⟨y16.kind, y16.text, y16.keys, y16.kids⟩ : Node) ([114, 101, 116, 114, 105, 101, 115] : List UInt8) y24); bif (okDn (⟨y25.kind, y25.text, y25.keys, y25.kids⟩ : Node) true) then (let y26 : Node := (doneV (⟨y25.kind, y25.text, y25.keys, y25.kids⟩ : Node) true); let y27 : Bool := (doneB (⟨y25.kind, y25.text, y25.keys, y25.kids⟩ : Node) true); some [⟨.api_Node, (⟨y26.kind, y26.text, y26.keys, y26.kids⟩ : Node)⟩, ⟨.bool, y27⟩]) else none) else none) else none) else (bif (okDn (⟨y16.kind, y16.text, y16.keys, y16.kids⟩ : Node) true) then (let y28 : Node := (doneV (⟨y16.kind, y16.text, y16.keys, y16.kids⟩ : Node) true); let y29 : Bool := (doneB (⟨y16.kind, y16.text, y16.keys, y16.kids⟩ : Node) true); some [⟨.api_Node, (⟨y28.kind, y28.text, y28.keys, y28.kids⟩ : Node)⟩, ⟨.bool, y29⟩]) else none))) else none) else (bif (!(y11 == ([] : List UInt8))) then (bif (okWi (⟨y8.kind, y8.text, y8.keys, y8.kids⟩ : Node) ([115, 116, 97, 114, 116, 95, 112, 101, 114, 105, 111, 100] : List UInt8) (txtN y11)) then (let y30 : Node := (withV (⟨y8.kind, y8.text, y8.keys, y8.kids⟩ : Node) ([115, 116, 97, 114, 116, 95, 112, 101, 114, 105, 111, 100] : List UInt8) (txtN y11)); bif (decide ((0 : Int) < y13)) then (bif (okI y13) then (let y31 : Node := (txtN (textV y13)); bif (okWi (⟨y30.kind, y30.text, y30.keys, y30.kids⟩ : Node) ([114, 101, 116, 114, 105, 101, 115] : List UInt8) y31) then (let y32 : Node := (withV (⟨y30.kind, y30.text, y30.keys, y30.kids⟩ : Node) ([114, 101, 116, 114, 105, 101, 115] : List UInt8) y31); bif (okDn (⟨y32.kind, y32.text, y32.keys, y32.kids⟩ : Node) true) then (let y33 : Node := (doneV (⟨y32.kind, y32.text, y32.keys, y32.kids⟩ : Node) true); let y34 : Bool := (doneB (⟨y32.kind, y32.text, y32.keys, y32.kids⟩ : Node) true); some [⟨.api_Node, (⟨y33.kind, y33.text, y33.keys, y33.kids⟩ : Node)⟩, ⟨.bool, y34⟩]) else none) else none) else none) else (bif (okDn (⟨y30.kind, y30.text, y30.keys, y30.kids⟩ : Node) true) then (let y35 : Node := (doneV (⟨y30.kind, y30.text, y30.keys, y30.kids⟩ : Node) true); let y36 : Bool := (doneB (⟨y30.kind, y30.text, y30.keys, y30.kids⟩ : Node) true); some [⟨.api_Node, (⟨y35.kind, y35.text, y35.keys, y35.kids⟩ : Node)⟩, ⟨.bool, y36⟩]) else none)) else none) else (bif (decide ((0 : Int) < y13)) then (bif (okI y13) then (let y37 : Node := (txtN (textV y13)); bif (okWi (⟨y8.kind, y8.text, y8.keys, y8.kids⟩ : Node) ([114, 101, 116, 114, 105, 101, 115] : List UInt8) y37) then (let y38 : Node := (withV (⟨y8.kind, y8.text, y8.keys, y8.kids⟩ : Node) ([114, 101, 116, 114, 105, 101, 115] : List UInt8) y37); bif (okDn (⟨y38.kind, y38.text, y38.keys, y38.kids⟩ : Node) true) then (let y39 : Node := (doneV (⟨y38.kind, y38.text, y38.keys, y38.kids⟩ : Node) true); let y40 : Bool := (doneB (⟨y38.kind, y38.text, y38.keys, y38.kids⟩ : Node) true); some [⟨.api_Node, (⟨y39.kind, y39.text, y39.keys, y39.kids⟩ : Node)⟩, ⟨.bool, y40⟩]) else none) else none) else none) else (bif (okDn (⟨y8.kind, y8.text, y8.keys, y8.kids⟩ : Node) true) then (let y41 : Node := (doneV (⟨y8.kind, y8.text, y8.keys, y8.kids⟩ : Node) true); let y42 : Bool := (doneB (⟨y8.kind, y8.text, y8.keys, y8.kids⟩ : Node) true); some [⟨.api_Node, (⟨y41.kind, y41.text, y41.keys, y41.kids⟩ : Node)⟩, ⟨.bool, y42⟩]) else none)))))) else none) else none) else none) else none) else (bif (okWi (⟨(0 : Int), ([] : List UInt8), ([] : List (List UInt8)), ([] : List Node)⟩ : Node) ([116, 101, 115, 116] : List UInt8) (txtN y6)) then (let y43 : Node := (withV (⟨(0 : Int), ([] : List UInt8), ([] : List (List UInt8)), ([] : List Node)⟩ : Node) ([116, 101, 115, 116] : List UInt8) (txtN y6)); bif (okSp (⟨x0.kind, x0.text, x0.keys, x0.kids⟩ : Node) ([105, 110, 116, 101, 114, 118, 97, 108] : List UInt8) (1 : Int)) then (let y44 : List UInt8 := (r18span_r0 (⟨x0.kind, x0.text, x0.keys, x0.kids⟩ : Node) ([105, 110, 116, 101, 114, 118, 97, 108] : List UInt8) (1 : Int)); let y45 : Bool := (r18span_r1 (⟨x0.kind, x0.text, x0.keys, x0.kids⟩ : Node) ([105, 110, 116, 101, 114, 118, 97, 108] : List UInt8) (1 : Int)); bif (okSp (⟨x0.kind, x0.text, x0.keys, x0.kids⟩ : Node) ([115, 116, 97, 114, 116, 95, 112, 101, 114, 105, 111, 100] : List UInt8) (0 : Int)) then (let y46 : List UInt8 := (r18span_r0 (⟨x0.kind, x0.text, x0.keys, x0.kids⟩ : Node) ([115, 116, 97, 114, 116, 95, 112, 101, 114, 105, 111, 100] : List UInt8) (0 : Int)); let y47 : Bool := (r18span_r1 (⟨x0.kind, x0.text, x0.keys, x0.kids⟩ : Node) ([115, 116, 97, 114, 116, 95, 112, 101, 114, 105, 111, 100] : List UInt8) (0 : Int)); bif (okNm (⟨x0.kind, x0.text, x0.keys, x0.kids⟩ : Node) ([114, 101, 116, 114, 105, 101, 115] : List UInt8)) then (let y48 : Int := (r18number_r0 (⟨x0.kind, x0.text, x0.keys, x0.kids⟩ : Node) ([114, 101, 116, 114, 105, 101, 115] : List UInt8)); let y49 : Bool := (r18number_r1 (⟨x0.kind, x0.text, x0.keys, x0.kids⟩ : Node) ([114, 101, 116, 114, 105, 101, 115] : List UInt8)); bif (bif (bif (bif (bif (!y3) then true else (!y45)) then true else (!y47)) then true else (!y49)) then true else (decide ((10 : Int) < y48))) then some [⟨.api_Node, (⟨(0 : Int), ([] : List UInt8), ([] : List (List UInt8)), ([] : List Node)⟩ : Node)⟩, ⟨.bool, false⟩] else (bif (y2 == ([116, 114, 117, 101] : List UInt8)) then (let y50 : Node := (txtN ([116, 114, 117, 101] : List UInt8)); some [⟨.api_Node, (⟨(3 : Int), ([] : List UInt8), ([([100, 105, 115, 97, 98, 108, 101] : List UInt8)] : List (List UInt8)), ([y50] : List Node)⟩ : Node)⟩, ⟨.bool, true⟩]) else (bif (!(y44 == ([] : List UInt8))) then (bif (okWi (⟨y43.kind, y43.text, y43.keys, y43.kids⟩ : Node) ([105, 110, 116, 101, 114, 118, 97, 108] : List UInt8) (txtN y44)) then (let y51 : Node := (withV (⟨y43.kind, y43.text, y43.keys, y43.kids⟩ : Node) ([105, 110, 116, 101, 114, 118, 97, 108] : List UInt8) (txtN y44)); bif (!(y46 == ([] : List UInt8))) then (bif (okWi (⟨y51.kind, y51.text, y51.keys, y51.kids⟩ : Node) ([115, 116, 97, 114, 116, 95, 112, 101, 114, 105, 111, 100] : List UInt8) (txtN y46)) then (let y52 : Node := (withV (⟨y51.kind, y51.text, y51.keys, y51.kids⟩ : Node) ([115, 116, 97, 114, 116, 95, 112, 101, 114, 105, 111, 100] : List UInt8) (txtN y46)); bif (decide ((0 : Int) < y48)) then (bif (okI y48) then (let y53 : Node := (txtN (textV y48)); bif (okWi (⟨y52.kind, y52.text, y52.keys, y52.kids⟩ : Node) ([114, 101, 116, 114, 105, 101, 115] : List UInt8) y53) then (let y54 : Node := (withV (⟨y52.kind, y52.text, y52.keys, y52.kids⟩ : Node) ([114, 101, 116, 114, 105, 101, 115] : List UInt8) y53); bif (okDn (⟨y54.kind, y54.text, y54.keys, y54.kids⟩ : Node) true) then (let y55 : Node := (doneV (⟨y54.kind, y54.text, y54.keys, y54.kids⟩ : Node) true); let y56 : Bool := (doneB (⟨y54.kind, y54.text, y54.keys, y54.kids⟩ : Node) true); some [⟨.api_Node, (⟨y55.kind, y55.text, y55.keys, y55.kids⟩ : Node)⟩, ⟨.bool, y56⟩]) else none) else none) else none) else (bif (okDn (⟨y52.kind, y52.text, y52.keys, y52.kids⟩ : Node) true) then (let y57 : Node := (doneV (⟨y52.kind, y52.text, y52.keys, y52.kids⟩ : Node) true); let y58 : Bool := (doneB (⟨y52.kind, y52.text, y52.keys, y52.kids⟩ : Node) true); some [⟨.api_Node, (⟨y57.kind, y57.text, y57.keys, y57.kids⟩ : Node)⟩, ⟨.bool, y58⟩]) else none)) else none) else (bif (decide ((0 : Int) < y48)) then (bif (okI y48) then (let y59 : Node := (txtN (textV y48)); bif (okWi (⟨y51.kind, y51.text, y51.keys, y51.kids⟩ : Node) ([114, 101, 116, 114, 105, 101, 115] : List UInt8) y59) then (let y60 : Node := (withV (⟨y51.kind, y51.text, y51.keys, y51.kids⟩ : Node) ([114, 101, 116, 114, 105, 101, 115] : List UInt8) y59); bif (okDn (⟨y60.kind, y60.text, y60.keys, y60.kids⟩ : Node) true) then (let y61 : Node := (doneV (⟨y60.kind, y60.text, y60.keys, y60.kids⟩ : Node) true); let y62 : Bool := (doneB (⟨y60.kind, y60.text, y60.keys, y60.kids⟩ : Node) true); some [⟨.api_Node, (⟨y61.kind, y61.text, y61.keys, y61.kids⟩ : Node)⟩, ⟨.bool, y62⟩]) else none) else none) else none) else (bif (okDn (⟨y51.kind, y51.text, y51.keys, y51.kids⟩ : Node) true) then (let y63 : Node := (doneV (⟨y51.kind, y51.text, y51.keys, y51.kids⟩ : Node) true); let y64 : Bool := (doneB (⟨y51.kind, y51.text, y51.keys, y51.kids⟩ : Node) true); some [⟨.api_Node, (⟨y63.kind, y63.text, y63.keys, y63.kids⟩ : Node)⟩, ⟨.bool, y64⟩]) else none))) else none) else (bif (!(y46 == ([] : List UInt8))) then (bif (okWi (⟨y43.kind, y43.text, y43.keys, y43.kids⟩ : Node) ([115, 116, 97, 114, 116, 95, 112, 101, 114, 105, 111, 100] : List UInt8) (txtN y46)) then (let y65 : Node := (withV (⟨y43.kind, y43.text, y43.keys, y43.kids⟩ : Node) ([115, 116, 97, 114, 116, 95, 112, 101, 114, 105, 111, 100] : List UInt8) (txtN y46)); bif (decide ((0 : Int) < y48)) then (bif (okI y48) then (let y66 : Node := (txtN (textV y48)); bif (okWi (⟨y65.kind, y65.text, y65.keys, y65.kids⟩ : Node) ([114, 101, 116, 114, 105, 101, 115] : List UInt8) y66) then (let y67 : Node := (withV (⟨y65.kind, y65.text, y65.keys, y65.kids⟩ : Node) ([114, 101, 116, 114, 105, 101, 115] : List UInt8) y66); bif (okDn (⟨y67.kind, y67.text, y67.keys, y67.kids⟩ : Node) true) then (let y68 : Node := (doneV (⟨y67.kind, y67.text, y67.keys, y67.kids⟩ : Node) true); let y69 : Bool := (doneB (⟨y67.kind, y67.text, y67.keys, y67.kids⟩ : Node) true); some [⟨.api_Node, (⟨y68.kind, y68.text, y68.keys, y68.kids⟩ : Node)⟩, ⟨.bool, y69⟩]) else none) else none) else none) else (bif (okDn (⟨y65.kind, y65.text, y65.keys, y65.kids⟩ : Node) true) then (let y70 : Node := (doneV (⟨y65.kind, y65.text, y65.keys, y65.kids⟩ : Node) true); let y71 : Bool := (doneB (⟨y65.kind, y65.text, y65.keys, y65.kids⟩ : Node) true); some [⟨.api_Node, (⟨y70.kind, y70.text, y70.keys, y70.kids⟩ : Node)⟩, ⟨.bool, y71⟩]) else none)) else none) else (bif (decide ((0 : Int) < y48)) then (bif (okI y48) then (let y72 : Node := (txtN (textV y48)); bif (okWi (⟨y43.kind, y43.text, y43.keys, y43.kids⟩ : Node) ([114, 101, 116, 114, 105, 101, 115] : List UInt8) y72) then (let y73 : Node := (withV (⟨y43.kind, y43.text, y43.keys, y43.kids⟩ : Node) ([114, 101, 116, 114, 105, 101, 115] : List UInt8) y72); bif (okDn (⟨y73.kind, y73.text, y73.keys, y73.kids⟩ : Node) true) then (let y74 : Node := (doneV (⟨y73.kind, y73.text, y73.keys, y73.kids⟩ : Node) true); let y75 : Bool := (doneB (⟨y73.kind, y73.text, y73.keys, y73.kids⟩ : Node) true); some [⟨.api_Node, (⟨y74.kind, y74.text, y74.keys, y74.kids⟩ : Node)⟩, ⟨.bool, y75⟩]) else none) else none) else none) else (bif (okDn (⟨y43.kind, y43.text, y43.keys, y43.kids⟩ : Node) true) then (let y76 : Node := (doneV (⟨y43.kind, y43.text, y43.keys, y43.kids⟩ : Node) true); let y77 : Bool := (doneB (⟨y43.kind, y43.text, y43.keys, y43.kids⟩ : Node) true); some [⟨.api_Node, (⟨y76.kind, y76.text, y76.keys, y76.kids⟩ : Node)⟩, ⟨.bool, y77⟩]) else none)))))) else none) else none) else none) else none))) else none) else (bif (okSp (⟨x0.kind, x0.text, x0.keys, x0.kids⟩ : Node) ([105, 110, 116, 101, 114, 118, 97, 108] : List UInt8) (1 : Int)) then (let y78 : List UInt8 := (r18span_r0 (⟨x0.kind, x0.text, x0.keys, x0.kids⟩ : Node) ([105, 110, 116, 101, 114, 118, 97, 108] : List UInt8) (1 : Int)); let y79 : Bool := (r18span_r1 (⟨x0.kind, x0.text, x0.keys, x0.kids⟩ : Node) ([105, 110, 116, 101, 114, 118, 97, 108] : List UInt8) (1 : Int)); bif (okSp (⟨x0.kind, x0.text, x0.keys, x0.kids⟩ : Node) ([115, 116, 97, 114, 116, 95, 112, 101, 114, 105, 111, 100] : List UInt8) (0 : Int)) then (let y80 : List UInt8 := (r18span_r0 (⟨x0.kind, x0.text, x0.keys, x0.kids⟩ : Node) ([115, 116, 97, 114, 116, 95, 112, 101, 114, 105, 111, 100] : List UInt8) (0 : Int)); let y81 : Bool := (r18span_r1 (⟨x0.kind, x0.text, x0.keys, x0.kids⟩ : Node) ([115, 116, 97, 114, 116, 95, 112, 101, 114, 105, 111, 100] : List UInt8) (0 : Int)); bif (okNm (⟨x0.kind, x0.text, x0.keys, x0.kids⟩ : Node) ([114, 101, 116, 114, 105, 101, 115] : List UInt8)) then (let y82 : Int := (r18number_r0 (⟨x0.kind, x0.text, x0.keys, x0.kids⟩ : Node) ([114, 101, 116, 114, 105, 101, 115] : List UInt8)); let y83 : Bool := (r18number_r1 (⟨x0.kind, x0.text, x0.keys, x0.kids⟩ : Node) ([114, 101, 116, 114, 105, 101, 115] : List UInt8)); bif (bif (bif (bif (bif (!y3) then true else (!y79)) then true else (!y81)) then true else (!y83)) then true else (decide ((10 : Int) < y82))) then some [⟨.api_Node, (⟨(0 : Int), ([] : List UInt8), ([] : List (List UInt8)), ([] : List Node)⟩ : Node)⟩, ⟨.bool, false⟩] else (bif (y2 == ([116, 114, 117, 101] : List UInt8)) then (let y84 : Node := (txtN ([116, 114, 117, 101] : List UInt8)); some [⟨.api_Node, (⟨(3 : Int), ([] : List UInt8), ([([100, 105, 115, 97, 98, 108, 101] : List UInt8)] : List (List UInt8)), ([y84] : List Node)⟩ : Node)⟩, ⟨.bool, true⟩]) else (bif (!(y78 == ([] : List UInt8))) then (bif (okWi (⟨(0 : Int), ([] : List UInt8), ([] : List (List UInt8)), ([] : List Node)⟩ : Node) ([105, 110, 116, 101, 114, 118, 97, 108] : List UInt8) (txtN y78)) then (let y85 : Node := (withV (⟨(0 : Int), ([] : List UInt8), ([] : List (List UInt8)), ([] : List Node)⟩ : Node) ([105, 110, 116, 101, 114, 118, 97, 108] : List UInt8) (txtN y78)); bif (!(y80 == ([] : List UInt8))) then (bif (okWi (⟨y85.kind, y85.text, y85.keys, y85.kids⟩ : Node) ([115, 116, 97, 114, 116, 95, 112, 101, 114, 105, 111, 100] : List UInt8) (txtN y80)) then (let y86 : Node := (withV (⟨y85.kind, y85.text, y85.keys, y85.kids⟩ : Node) ([115, 116, 97, 114, 116, 95, 112, 101, 114, 105, 111, 100] : List UInt8) (txtN y80)); bif (decide ((0 : Int) < y82)) then (bif (okI y82) then (let y87 : Node := (txtN (textV y82)); bif (okWi (⟨y86.kind, y86.text, y86.keys, y86.kids⟩ : Node) ([114, 101, 116, 114, 105, 101, 115] : List UInt8) y87) then (let y88 : Node := (withV (⟨y86.kind, y86.text, y86.keys, y86.kids⟩ : Node) ([114, 101, 116, 114, 105, 101, 115] : List UInt8) y87); bif (okDn (⟨y88.kind, y88.text, y88.keys, y88.kids⟩ : Node) true) then (let y89 : Node := (doneV (⟨y88.kind, y88.text, y88.keys, y88.kids⟩ : Node) true); let y90 : Bool := (doneB (⟨y88.kind, y88.text, y88.keys, y88.kids⟩ : Node) true); some [⟨.api_Node, (⟨y89.kind, y89.text, y89.keys, y89.kids⟩ : Node)⟩, ⟨.bool, y90⟩]) else none) else none) else none) else (bif (okDn (⟨y86.kind, y86.text, y86.keys, y86.kids⟩ : Node) true) then (let y91 : Node := (doneV (⟨y86.kind, y86.text, y86.keys, y86.kids⟩ : Node) true); let y92 : Bool := (doneB (⟨y86.kind, y86.text, y86.keys, y86.kids⟩ : Node) true); some [⟨.api_Node, (⟨y91.kind, y91.text, y91.keys, y91.kids⟩ : Node)⟩, ⟨.bool, y92⟩]) else none)) else none) else (bif (decide ((0 : Int) < y82)) then (bif (okI y82) then (let y93 : Node := (txtN (textV y82)); bif (okWi (⟨y85.kind, y85.text, y85.keys, y85.kids⟩ : Node) ([114, 101, 116, 114, 105, 101, 115] : List UInt8) y93) then (let y94 : Node := (withV (⟨y85.kind, y85.text, y85.keys, y85.kids⟩ : Node) ([114, 101, 116, 114, 105, 101, 115] : List UInt8) y93); bif (okDn (⟨y94.kind, y94.text, y94.keys, y94.kids⟩ : Node) true) then (let y95 : Node := (doneV (⟨y94.kind, y94.text, y94.keys, y94.kids⟩ : Node) true); let y96 : Bool := (doneB (⟨y94.kind, y94.text, y94.keys, y94.kids⟩ : Node) true); some [⟨.api_Node, (⟨y95.kind, y95.text, y95.keys, y95.kids⟩ : Node)⟩, ⟨.bool, y96⟩]) else none) else none) else none) else (bif (okDn (⟨y85.kind, y85.text, y85.keys, y85.kids⟩ : Node) true) then (let y97 : Node := (doneV (⟨y85.kind, y85.text, y85.keys, y85.kids⟩ : Node) true); let y98 : Bool := (doneB (⟨y85.kind, y85.text, y85.keys, y85.kids⟩ : Node) true); some [⟨.api_Node, (⟨y97.kind, y97.text, y97.keys, y97.kids⟩ : Node)⟩, ⟨.bool, y98⟩]) else none))) else none) else (bif (!(y80 == ([] : List UInt8))) then (bif (okWi (⟨(0 : Int), ([] : List UInt8), ([] : List (List UInt8)), ([] : List Node)⟩ : Node) ([115, 116, 97, 114, 116, 95, 112, 101, 114, 105, 111, 100] : List UInt8) (txtN y80)) then (let y99 : Node := (withV (⟨(0 : Int), ([] : List UInt8), ([] : List (List UInt8)), ([] : List Node)⟩ : Node) ([115, 116, 97, 114, 116, 95, 112, 101, 114, 105, 111, 100] : List UInt8) (txtN y80)); bif (decide ((0 : Int) < y82)) then (bif (okI y82) then (let y100 : Node := (txtN (textV y82)); bif (okWi (⟨y99.kind, y99.text, y99.keys, y99.kids⟩ : Node) ([114, 101, 116, 114, 105, 101, 115] : List UInt8) y100) then (let y101 : Node := (withV (⟨y99.kind, y99.text, y99.keys, y99.kids⟩ : Node) ([114, 101, 116, 114, 105, 101, 115] : List UInt8) y100); bif (okDn (⟨y101.kind, y101.text, y101.keys, y101.kids⟩ : Node) true) then (let y102 : Node := (doneV (⟨y101.kind, y101.text, y101.keys, y101.kids⟩ : Node) true); let y103 : Bool := (doneB (⟨y101.kind, y101.text, y101.keys, y101.kids⟩ : Node) true); some [⟨.api_Node, (⟨y102.kind, y102.text, y102.keys, y102.kids⟩ : Node)⟩, ⟨.bool, y103⟩]) else none) else none) else none) else (bif (okDn (⟨y99.kind, y99.text, y99.keys, y99.kids⟩ : Node) true) then (let y104 : Node := (doneV (⟨y99.kind, y99.text, y99.keys, y99.kids⟩ : Node) true); let y105 : Bool := (doneB (⟨y99.kind, y99.text, y99.keys, y99.kids⟩ : Node) true); some [⟨.api_Node, (⟨y104.kind, y104.text, y104.keys, y104.kids⟩ : Node)⟩, ⟨.bool, y105⟩]) else none)) else none) else (bif (decide ((0 : Int) < y82)) then (bif (okI y82) then (let y106 : Node := (txtN (textV y82)); bif (okWi (⟨(0 : Int), ([] : List UInt8), ([] : List (List UInt8)), ([] : List Node)⟩ : Node) ([114, 101, 116, 114, 105, 101, 115] : List UInt8) y106) then (let y107 : Node := (withV (⟨(0 : Int), ([] : List UInt8), ([] : List (List UInt8)), ([] : List Node)⟩ : Node) ([114, 101, 116, 114, 105, 101, 115] : List UInt8) y106); bif (okDn (⟨y107.kind, y107.text, y107.keys, y107.kids⟩ : Node) true) then (let y108 : Node := (doneV (⟨y107.kind, y107.text, y107.keys, y107.kids⟩ : Node) true); let y109 : Bool := (doneB (⟨y107.kind, y107.text, y107.keys, y107.kids⟩ : Node) true); some [⟨.api_Node, (⟨y108.kind, y108.text, y108.keys, y108.kids⟩ : Node)⟩, ⟨.bool, y109⟩]) else none) else none) else none) else (bif (okDn (⟨(0 : Int), ([] : List UInt8), ([] : List (List UInt8)), ([] : List Node)⟩ : Node) true) then (let y110 : Node := (doneV (⟨(0 : Int), ([] : List UInt8), ([] : List (List UInt8)), ([] : List Node)⟩ : Node) true); let y111 : Bool := (doneB (⟨(0 : Int), ([] : List UInt8), ([] : List (List UInt8)), ([] : List Node)⟩ : Node) true); some [⟨.api_Node, (⟨y110.kind, y110.text, y110.keys, y110.kids⟩ : Node)⟩, ⟨.bool, y111⟩]) else none)))))) else none) else none) else none)) else none) else none)) else none
theorem r18health_e (G : Nat → ASt E → Option (List (TV E))) (x0 : Node) : runE r18health_O r18health_H G Tryz.f51 [⟨.api_Node, x0⟩] = r18health_t G x0 := by kernel_rfl
theorem r18health_f : Tryz.prog.funcs[51]? = some Tryz.f51 := by kernel_rfl
theorem r18health_n : (Tryz.f51.name == "runtime.NumGoroutine") = false := by kernel_rfl
theorem r18health_b : Tryz.f51.body.isNone = false := by kernel_rfl
theorem r18health_ex : ∃ fn, Tryz.prog.funcs[51]? = some fn ∧ (fn.name == "runtime.NumGoroutine") = false ∧ fn.body.isNone = false := ⟨Tryz.f51, r18health_f, r18health_n, r18health_b⟩
theorem r18health_hO : OracleOk E r18health_O := orac_ok (.cons rtext_ok (.cons rget_ok (.cons rwith_ok (.cons r18text_ok (.cons r18done_ok (.cons r18number_ok (.cons r18only_ok (.cons r18span_ok (.cons r18test_ok (.cons r18truth_ok .nil)))))))))) .nil .nil .nil
def r18health_any (x0 : Node) (p : Node × Bool) : Prop := r18health_t (Gr E Tryz.f51 [⟨.api_Node, p.1⟩, ⟨.bool, p.2⟩]) x0 = some [⟨.api_Node, p.1⟩, ⟨.bool, p.2⟩] ∧ setPr x0 p
noncomputable def r18health_p (x0 : Node) : Node × Bool := @Classical.epsilon _ ⟨(dflt .api_Node, dflt .bool)⟩ (r18health_any x0)
noncomputable def r18health_r0 (x0 : Node) : Node := (r18health_p x0).1
noncomputable def r18health_r1 (x0 : Node) : Bool := (r18health_p x0).2
theorem r18health_spec (x0 : Node) (h : ∃ p, r18health_any x0 p) : r18health_any x0 (r18health_p x0) := Classical.epsilon_spec h
noncomputable def r18health_W : FnW E := fn12 (E := E) .api_Node .api_Node .bool okN r18health_r0 r18health_r1
def r18health_id : FuncId := 51
theorem r18health_ok_of (h : ∀ (x0 : Node), okN x0 = true → r18health_t (Gr E Tryz.f51 [⟨.api_Node, r18health_r0 x0⟩, ⟨.bool, r18health_r1 x0⟩]) x0 = some [⟨.api_Node, r18health_r0 x0⟩, ⟨.bool, r18health_r1 x0⟩]) : FnOk E r18health_id r18health_W := fn12_ok r18health_hO mix r18health_f r18health_n r18health_b (fun x0 hk => (r18health_e _ x0).trans (h x0 hk))
def hD (o : Node) : Option (List (TV E)) := bif okDn o true then some [⟨.api_Node, doneV o true⟩, ⟨.bool, doneB o true⟩] else none
def hV (o : Node) (tries : Int) : Option (List (TV E)) := bif decide ((0 : Int) < tries) then (bif okI tries then (bif okWi o [114, 101, 116, 114, 105, 101, 115] (txtN (textV tries)) then hD (withV o [114, 101, 116, 114, 105, 101, 115] (txtN (textV tries))) else none) else none) else hD o
def hU (o : Node) (start : List UInt8) (tries : Int) : Option (List (TV E)) := bif !(start == []) then (bif okWi o [115, 116, 97, 114, 116, 95, 112, 101, 114, 105, 111, 100] (txtN start) then hV (withV o [115, 116, 97, 114, 116, 95, 112, 101, 114, 105, 111, 100] (txtN start)) tries else none) else hV o tries
def hT (o : Node) (every start : List UInt8) (tries : Int) : Option (List (TV E)) := bif !(every == []) then (bif okWi o [105, 110, 116, 101, 114, 118, 97, 108] (txtN every) then hU (withV o [105, 110, 116, 101, 114, 118, 97, 108] (txtN every)) start tries else none) else hU o start tries
abbrev HP (t : Option (List (TV E))) : Prop := ∃ p : Node × Bool, m1P p ∧ t = some [⟨.api_Node, p.1⟩, ⟨.bool, p.2⟩]
theorem hD_ok {L : Nat} {o : Node} (h : Bq leafK 1 L o) : HP (hD o) := done_m1 h true
theorem hV_ok {L : Nat} {o : Node} (h : Bq leafK 1 L o) (hL : L ≤ 100) (tries : Int) (ht : okI tries = true) : HP (hV o tries) := by
  unfold hV
  rw [ht, h.ok (by omega)]
  cases decide ((0 : Int) < tries) with
  | true => exact hD_ok (h.put (txtN_leaf _ _) (txtN_wg _ 0))
  | false => exact hD_ok h
theorem hU_ok {L : Nat} {o : Node} (h : Bq leafK 1 L o) (hL : L ≤ 90) (start : List UInt8) (tries : Int) (ht : okI tries = true) : HP (hU o start tries) := by
  unfold hU
  rw [h.ok (by omega)]
  cases start == [] with
  | false => exact hV_ok (h.put (txtN_leaf _ _) (txtN_wg _ 0)) (by omega) tries ht
  | true => exact hV_ok h (by omega) tries ht
theorem hT_ok {L : Nat} {o : Node} (h : Bq leafK 1 L o) (hL : L ≤ 80) (every start : List UInt8) (tries : Int) (ht : okI tries = true) : HP (hT o every start tries) := by
  unfold hT
  rw [h.ok (by omega)]
  cases every == [] with
  | false => exact hU_ok (h.put (txtN_leaf _ _) (txtN_wg _ 0)) (by omega) start tries ht
  | true => exact hU_ok h (by omega) start tries ht
theorem m1_one (k v : List UInt8) : m1P ((⟨3, [], [k], [txtN v]⟩ : Node), true) := fun _ => by
  refine ⟨⟨⟨rfl, rfl⟩, rfl, fun k' y hk => .inr ?_⟩, wg_iff.2 ⟨by simp, by simp, fun _ => rfl, fun y hy => by rw [List.mem_singleton.1 hy]; exact txtN_wg _ 0⟩⟩
  have hy := lk_mem hk
  rw [List.mem_singleton.1 hy]; exact txtN_leaf _ k'
theorem r18health_tot (n : Node) (hn : okN n = true) : ∃ p, r18health_any n p := by
  have flip : (∃ p, m1P p ∧ r18health_t (Gr E Tryz.f51 [⟨.api_Node, p.1⟩, ⟨.bool, p.2⟩]) n = some [⟨.api_Node, p.1⟩, ⟨.bool, p.2⟩]) → ∃ p, r18health_any n p := fun ⟨p, h1, h2⟩ => ⟨p, h2, h1⟩
  refine flip ?_
  have oS : ∀ k m, okSp n k m = true := fun _ _ => hn
  have oM : ∀ k, okNm n k = true := fun _ => hn
  have ht := r18number_pr [114, 101, 116, 114, 105, 101, 115] hn
  have hI : okI (r18number_r0 n [114, 101, 116, 114, 105, 101, 115]) = true := okI_of (by omega) (by omega)
  have z : Bq leafK 1 0 ⟨0, [], [], []⟩ := Bq.nil (.inl rfl)
  have oW := z.ok (by decide)
  have hs : (([116, 114, 117, 101] : List UInt8) == [116, 114, 117, 101]) = true := rfl
  simp only [r18health_t, node_eta, okN_o5 hn, okN_fl hn, okN_fit hn, okN_get hn, oS, oM, oW, hs, cond_true]
  generalize r18only_r0 n _ = b1
  cases b1 with
  | false => exact ⟨(_, false), m1_no, rfl⟩
  | true =>
    simp only [Bool.not_true, cond_false]
    cases getB n [116, 101, 115, 116] with
    | true =>
      simp only [cond_true]
      have z1 := z.put (k := [116, 101, 115, 116]) (v := txtN (r18test_r0 (getV n [116, 101, 115, 116]))) (txtN_leaf _ _) (txtN_wg _ 0)
      cases r18test_r1 (getV n [116, 101, 115, 116]) == 0 with
      | true => exact ⟨(_, false), m1_no, rfl⟩
      | false =>
        simp only [cond_false]
        cases r18test_r1 (getV n [116, 101, 115, 116]) == 2 with
        | true =>
          simp only [cond_true]
          generalize (bif bif _ then true else _ then true else _ : Bool) = c
          cases c with
          | true => exact ⟨(_, false), m1_no, rfl⟩
          | false => exact ⟨(_, true), m1_one _ _, rfl⟩
        | false =>
          simp only [cond_false]
          generalize (bif bif _ then true else _ then true else _ : Bool) = c
          cases c with
          | true => exact ⟨(_, false), m1_no, rfl⟩
          | false =>
            simp only [cond_false]
            cases fldV n [100, 105, 115, 97, 98, 108, 101] [102, 97, 108, 115, 101] == [116, 114, 117, 101] with
            | true => exact ⟨(_, true), m1_one _ _, rfl⟩
            | false => exact hT_ok z1 (by decide) _ _ _ hI
    | false =>
      simp only [cond_false]
      generalize (bif bif _ then true else _ then true else _ : Bool) = c
      cases c with
      | true => exact ⟨(_, false), m1_no, rfl⟩
      | false =>
        simp only [cond_false]
        cases fldV n [100, 105, 115, 97, 98, 108, 101] [102, 97, 108, 115, 101] == [116, 114, 117, 101] with
        | true => exact ⟨(_, true), m1_one _ _, rfl⟩
        | false => exact hT_ok z (by decide) _ _ _ hI
theorem r18health_ok : FnOk E r18health_id r18health_W := r18health_ok_of fun n hk => (r18health_spec n (r18health_tot n hk)).1
theorem r18health_pr {n : Node} (hk : okN n = true) : m1P (r18health_p n) := (r18health_spec n (r18health_tot n hk)).2
noncomputable def r18again_O : Oracle E := orac [(60, rcount_W)] [] [] []
noncomputable def r18again_H : Hint E := Hint.mk [] [] [] [] []
noncomputable def r18again_t (_G : Nat → ASt E → Option (List (TV E))) (x0 : List UInt8) : Option (List (TV E)) :=
  bif ((decide ((0 : Int) ≤ (0 : Int)) && decide ((0 : Int) ≤ (11 : Int)) && decide ((11 : Int) ≤ (x0.length : Int))) || !(decide ((11 : Int) < (x0.length : Int)))) then (bif (bif (decide ((11 : Int) < (x0.length : Int))) then ((List.take (Int.toNat (11 : Int) - Int.toNat (0 : Int)) (List.drop (Int.toNat (0 : Int)) x0)) == ([111, 110, 45, 102, 97, 105, 108, 117, 114, 101, 58] : List UInt8)) else false) then (bif (decide ((0 : Int) ≤ (11 : Int)) && decide ((11 : Int) ≤ (x0.length : Int)) && decide ((x0.length : Int) ≤ (x0.length : Int))) then (bif (okW (List.take (Int.toNat (x0.length : Int) - Int.toNat (11 : Int)) (List.drop (Int.toNat (11 : Int)) x0)) (10 : Int)) then some [⟨.bool, (bif ((cntE (List.take (Int.toNat (x0.length : Int) - Int.toNat (11 : Int)) (List.drop (Int.toNat (11 : Int)) x0)) (10 : Int)) == (0 : Int)) then (decide ((0 : Int) < (cntV (List.take (Int.toNat (x0.length : Int) - Int.toNat (11 : Int)) (List.drop (Int.toNat (11 : Int)) x0)) (10 : Int)))) else false)⟩] else none) else none) else some [⟨.bool, (bif (bif (bif (x0 == ([110, 111] : List UInt8)) then true else (x0 == ([97, 108, 119, 97, 121, 115] : List UInt8))) then true else (x0 == ([117, 110, 108, 101, 115, 115, 45, 115, 116, 111, 112, 112, 101, 100] : List UInt8))) then true else (x0 == ([111, 110, 45, 102, 97, 105, 108, 117, 114, 101] : List UInt8)))⟩]) else none
theorem r18again_e (G : Nat → ASt E → Option (List (TV E))) (x0 : List UInt8) : runE r18again_O r18again_H G Tryz.f55 [⟨.str, x0⟩] = r18again_t G x0 := by kernel_rfl
theorem r18again_f : Tryz.prog.funcs[55]? = some Tryz.f55 := by kernel_rfl
theorem r18again_n : (Tryz.f55.name == "runtime.NumGoroutine") = false := by kernel_rfl
theorem r18again_b : Tryz.f55.body.isNone = false := by kernel_rfl
theorem r18again_ex : ∃ fn, Tryz.prog.funcs[55]? = some fn ∧ (fn.name == "runtime.NumGoroutine") = false ∧ fn.body.isNone = false := ⟨Tryz.f55, r18again_f, r18again_n, r18again_b⟩
theorem r18again_hO : OracleOk E r18again_O := orac_ok (.cons rcount_ok .nil) .nil .nil .nil
def r18again_any (x0 : List UInt8) (p : Bool) : Prop := r18again_t (Gr E Tryz.f55 [⟨.bool, p⟩]) x0 = some [⟨.bool, p⟩]
noncomputable def r18again_p (x0 : List UInt8) : Bool := @Classical.epsilon _ ⟨(dflt .bool)⟩ (r18again_any x0)
noncomputable def r18again_r0 (x0 : List UInt8) : Bool := (r18again_p x0)
theorem r18again_spec (x0 : List UInt8) (h : ∃ p, r18again_any x0 p) : r18again_any x0 (r18again_p x0) := Classical.epsilon_spec h
noncomputable def r18again_W : FnW E := fn1 (E := E) .str .bool okL1 r18again_r0
def r18again_id : FuncId := 55
theorem r18again_ok_of (h : ∀ (x0 : List UInt8), okL1 x0 = true → r18again_t (Gr E Tryz.f55 [⟨.bool, r18again_r0 x0⟩]) x0 = some [⟨.bool, r18again_r0 x0⟩]) : FnOk E r18again_id r18again_W := fn1_ok r18again_hO mix r18again_f r18again_n r18again_b (fun x0 hk => (r18again_e _ x0).trans (h x0 hk))
theorem r18again_ok : FnOk E r18again_id r18again_W := r18again_ok_of fun s hk => by
  have hs := okL1_iff.1 hk
  have : ∃ p, r18again_any s p := by
    unfold r18again_any
    have k1 : List.take (Int.toNat (s.length : Int) - Int.toNat 11) (List.drop (Int.toNat 11) s) = s.drop 11 := cutN s 11
    have o1 : okW (s.drop 11) 10 = true := okW_iff.2 ⟨⟨by simp only [List.length_drop]; omega, by decide⟩, by decide⟩
    simp only [r18again_t, k1, o1, cond_true, d00, dlr, show decide ((0 : Int) ≤ 11) = true from rfl, Bool.true_and, Bool.and_true]
    by_cases h : 11 < s.length
    · simp only [dT (show (11 : Int) < (s.length : Int) by omega), dT (show (11 : Int) ≤ (s.length : Int) by omega), Bool.true_or, cond_true]
      generalize (List.take (Int.toNat 11 - Int.toNat 0) (List.drop (Int.toNat 0) s) == [111, 110, 45, 102, 97, 105, 108, 117, 114, 101, 58]) = c
      cases c <;> exact ⟨_, rfl⟩
    · simp only [dF (show ¬ (11 : Int) < (s.length : Int) by omega), Bool.not_false, Bool.or_true, cond_true, cond_false]
      exact ⟨_, rfl⟩
  exact r18again_spec s this
def okOne (n : Node) (_ : Int) : Bool := okN n
def onePr (_ : Node) (_ : Int) (p : Node × Bool) : Prop := p.2 = true → p.1.kind = 1 ∧ wg 10000 1 p.1 = true
noncomputable def r18one_O : Oracle E := orac [(60, rcount_W), (56, rmilli_W), (57, rsparse_W), (59, rstext_W), (55, r18again_W), (58, r18text_W)] [] [] []
noncomputable def r18one_H : Hint E := Hint.mk [] [] [] [] []
noncomputable def r18one_t (_G : Nat → ASt E → Option (List (TV E))) (x0 : Node) (x1 : Int) : Option (List (TV E)) :=
  bif (x0.kind != (1 : Int)) then some [⟨.api_Node, (⟨(0 : Int), ([] : List UInt8), ([] : List (List UInt8)), ([] : List Node)⟩ : Node)⟩, ⟨.bool, false⟩] else (bif (x1 == (0 : Int)) then (bif (okL1 x0.text) then (bif (!(r18again_r0 x0.text)) then some [⟨.api_Node, (⟨(0 : Int), ([] : List UInt8), ([] : List (List UInt8)), ([] : List Node)⟩ : Node)⟩, ⟨.bool, false⟩] else some [⟨.api_Node, (⟨x0.kind, x0.text, x0.keys, x0.kids⟩ : Node)⟩, ⟨.bool, true⟩]) else none) else (bif (x1 == (1 : Int)) then (bif (okL1 x0.text) then (bif (!(bif ((rmilli_r1 x0.text) == (0 : Int)) then (decide ((0 : Int) < (rmilli_r0 x0.text))) else false)) then some [⟨.api_Node, (⟨(0 : Int), ([] : List UInt8), ([] : List (List UInt8)), ([] : List Node)⟩ : Node)⟩, ⟨.bool, false⟩] else some [⟨.api_Node, (⟨x0.kind, x0.text, x0.keys, x0.kids⟩ : Node)⟩, ⟨.bool, true⟩]) else none) else (bif (x1 == (2 : Int)) then (bif (okL1 x0.text) then (bif (!(bif ((rsparse_r1 x0.text) == (0 : Int)) then (decide ((0 : Int) < (rsparse_r0 x0.text))) else false)) then some [⟨.api_Node, (⟨(0 : Int), ([] : List UInt8), ([] : List (List UInt8)), ([] : List Node)⟩ : Node)⟩, ⟨.bool, false⟩] else some [⟨.api_Node, (⟨(txtN (rstext_r0 (rsparse_r0 x0.text))).kind, (txtN (rstext_r0 (rsparse_r0 x0.text))).text, (txtN (rstext_r0 (rsparse_r0 x0.text))).keys, (txtN (rstext_r0 (rsparse_r0 x0.text))).kids⟩ : Node)⟩, ⟨.bool, true⟩]) else none) else (bif (x1 == (3 : Int)) then (bif (okW x0.text (8 : Int)) then (bif (!((cntE x0.text (8 : Int)) == (0 : Int))) then some [⟨.api_Node, (⟨(0 : Int), ([] : List UInt8), ([] : List (List UInt8)), ([] : List Node)⟩ : Node)⟩, ⟨.bool, false⟩] else some [⟨.api_Node, (⟨x0.kind, x0.text, x0.keys, x0.kids⟩ : Node)⟩, ⟨.bool, true⟩]) else none) else (bif (!(bif (decide ((1 : Int) ≤ (x0.text.length : Int))) then (decide ((x0.text.length : Int) ≤ (64 : Int))) else false)) then some [⟨.api_Node, (⟨(0 : Int), ([] : List UInt8), ([] : List (List UInt8)), ([] : List Node)⟩ : Node)⟩, ⟨.bool, false⟩] else some [⟨.api_Node, (⟨x0.kind, x0.text, x0.keys, x0.kids⟩ : Node)⟩, ⟨.bool, true⟩])))))
theorem r18one_e (G : Nat → ASt E → Option (List (TV E))) (x0 : Node) (x1 : Int) : runE r18one_O r18one_H G Tryz.f44 [⟨.api_Node, x0⟩, ⟨.int, x1⟩] = r18one_t G x0 x1 := by kernel_rfl
theorem r18one_f : Tryz.prog.funcs[44]? = some Tryz.f44 := by kernel_rfl
theorem r18one_n : (Tryz.f44.name == "runtime.NumGoroutine") = false := by kernel_rfl
theorem r18one_b : Tryz.f44.body.isNone = false := by kernel_rfl
theorem r18one_ex : ∃ fn, Tryz.prog.funcs[44]? = some fn ∧ (fn.name == "runtime.NumGoroutine") = false ∧ fn.body.isNone = false := ⟨Tryz.f44, r18one_f, r18one_n, r18one_b⟩
theorem r18one_hO : OracleOk E r18one_O := orac_ok (.cons rcount_ok (.cons rmilli_ok (.cons rsparse_ok (.cons rstext_ok (.cons r18again_ok (.cons r18text_ok .nil)))))) .nil .nil .nil
def r18one_any (x0 : Node) (x1 : Int) (p : Node × Bool) : Prop := r18one_t (Gr E Tryz.f44 [⟨.api_Node, p.1⟩, ⟨.bool, p.2⟩]) x0 x1 = some [⟨.api_Node, p.1⟩, ⟨.bool, p.2⟩] ∧ onePr x0 x1 p
noncomputable def r18one_p (x0 : Node) (x1 : Int) : Node × Bool := @Classical.epsilon _ ⟨(dflt .api_Node, dflt .bool)⟩ (r18one_any x0 x1)
noncomputable def r18one_r0 (x0 : Node) (x1 : Int) : Node := (r18one_p x0 x1).1
noncomputable def r18one_r1 (x0 : Node) (x1 : Int) : Bool := (r18one_p x0 x1).2
theorem r18one_spec (x0 : Node) (x1 : Int) (h : ∃ p, r18one_any x0 x1 p) : r18one_any x0 x1 (r18one_p x0 x1) := Classical.epsilon_spec h
noncomputable def r18one_W : FnW E := fn22 (E := E) .api_Node .int .api_Node .bool okOne r18one_r0 r18one_r1
def r18one_id : FuncId := 44
theorem r18one_ok_of (h : ∀ (x0 : Node) (x1 : Int), okOne x0 x1 = true → r18one_t (Gr E Tryz.f44 [⟨.api_Node, r18one_r0 x0 x1⟩, ⟨.bool, r18one_r1 x0 x1⟩]) x0 x1 = some [⟨.api_Node, r18one_r0 x0 x1⟩, ⟨.bool, r18one_r1 x0 x1⟩]) : FnOk E r18one_id r18one_W := fn22_ok r18one_hO mix r18one_f r18one_n r18one_b (fun x0 x1 hk => (r18one_e _ x0 x1).trans (h x0 x1 hk))
theorem r18one_tot (n : Node) (k : Int) (hn : okN n = true) : ∃ p, r18one_any n k p := by
  have flip : (∃ p, onePr n k p ∧ r18one_t (Gr E Tryz.f44 [⟨.api_Node, p.1⟩, ⟨.bool, p.2⟩]) n k = some [⟨.api_Node, p.1⟩, ⟨.bool, p.2⟩]) → ∃ p, r18one_any n k p := fun ⟨p, h1, h2⟩ => ⟨p, h2, h1⟩
  refine flip ?_
  have no : onePr n k (⟨0, [], [], []⟩, false) := fun h => by cases h
  have ht := okN_text hn
  have o1 : okL1 n.text = true := okL1_iff.2 (by omega)
  have o2 : okW n.text 8 = true := okW_iff.2 ⟨⟨by omega, by decide⟩, by decide⟩
  simp only [r18one_t, node_eta, o1, o2, cond_true]
  by_cases h1 : n.kind = 1
  · have yes : onePr n k (n, true) := fun _ => by
      have hw := wg_iff.1 (okN_wg hn)
      have hk0 := (kd_iff.1 (okN_kd hn)).2.1 (by omega)
      exact ⟨h1, wg_iff.2 ⟨hw.1, hw.2.1, hw.2.2.1, fun y hy => by rw [List.eq_nil_of_length_eq_zero hk0] at hy; cases hy⟩⟩
    have yes2 : ∀ s, onePr n k (txtN s, true) := fun s _ => ⟨rfl, txtN_wg s 0⟩
    rw [neF h1]
    simp only [cond_false]
    cases k == 0 with
    | true => cases r18again_r0 n.text <;> first | exact ⟨(_, false), no, rfl⟩ | exact ⟨(_, true), yes, rfl⟩
    | false =>
      simp only [cond_false]
      cases k == 1 with
      | true =>
        simp only [cond_true]
        cases (bif rmilli_r1 n.text == 0 then decide ((0 : Int) < rmilli_r0 n.text) else false) <;> first | exact ⟨(_, false), no, rfl⟩ | exact ⟨(_, true), yes, rfl⟩
      | false =>
        simp only [cond_false]
        cases k == 2 with
        | true =>
          simp only [cond_true]
          cases (bif rsparse_r1 n.text == 0 then decide ((0 : Int) < rsparse_r0 n.text) else false) <;> first | exact ⟨(_, false), no, rfl⟩ | exact ⟨(_, true), yes2 _, rfl⟩
        | false =>
          simp only [cond_false]
          cases k == 3 with
          | true =>
            simp only [cond_true]
            cases cntE n.text 8 == 0 <;> first | exact ⟨(_, false), no, rfl⟩ | exact ⟨(_, true), yes, rfl⟩
          | false =>
            simp only [cond_false]
            cases (bif decide ((1 : Int) ≤ (n.text.length : Int)) then decide ((n.text.length : Int) ≤ 64) else false) <;> first | exact ⟨(_, false), no, rfl⟩ | exact ⟨(_, true), yes, rfl⟩
  · rw [neT h1]; exact ⟨(_, false), no, rfl⟩
theorem r18one_ok : FnOk E r18one_id r18one_W := r18one_ok_of fun n k hk => (r18one_spec n k (r18one_tot n k hk)).1
theorem r18one_pr {n : Node} (k : Int) (hk : okN n = true) : onePr n k (r18one_p n k) := (r18one_spec n k (r18one_tot n k hk)).2
/-- The shape of a field, by its number. -/
def shOf (k : Int) : Sh := bif decide (k < 6) then .leaf else bif k == 11 then .map (fun _ => .map fun _ => .leaf) else .map fun _ => .leaf
def okFd (n : Node) (_ : Int) : Bool := okN n
def fldPr (n : Node) (k : Int) (p : Node × Bool) : Prop := p.2 = true → (k = 12 ∨ pfits (shOf k) p.1) ∧ ∀ d, 3 ≤ d → d ≤ 12 → wg 10000 d n = true → wg 10000 d p.1 = true
theorem wg_to {a d : Nat} {x : Node} (h : wg 10000 a x = true) (had : a ≤ d) : wg 10000 d x = true := by
  have := wg_deep (d - a) h
  rwa [show a + (d - a) = d from by omega] at this
noncomputable def r18fieldk_O : Oracle E := orac [(49, r18deps_W), (50, r18ext_W), (51, r18health_W), (48, r18mounts_W), (44, r18one_W), (46, r18pairs_W), (47, r18ports_W), (16, r18set_W), (45, r18words_W)] [] [] []
noncomputable def r18fieldk_H : Hint E := Hint.mk [] [] [] [] []
noncomputable def r18fieldk_t (_G : Nat → ASt E → Option (List (TV E))) (x0 : Node) (x1 : Int) : Option (List (TV E)) :=
  bif (decide (x1 < (5 : Int))) then (bif (okOne (⟨x0.kind, x0.text, x0.keys, x0.kids⟩ : Node) x1) then some [⟨.api_Node, (⟨(r18one_r0 (⟨x0.kind, x0.text, x0.keys, x0.kids⟩ : Node) x1).kind, (r18one_r0 (⟨x0.kind, x0.text, x0.keys, x0.kids⟩ : Node) x1).text, (r18one_r0 (⟨x0.kind, x0.text, x0.keys, x0.kids⟩ : Node) x1).keys, (r18one_r0 (⟨x0.kind, x0.text, x0.keys, x0.kids⟩ : Node) x1).kids⟩ : Node)⟩, ⟨.bool, (r18one_r1 (⟨x0.kind, x0.text, x0.keys, x0.kids⟩ : Node) x1)⟩] else none) else (bif (x1 == (5 : Int)) then (bif (okN (⟨x0.kind, x0.text, x0.keys, x0.kids⟩ : Node)) then some [⟨.api_Node, (⟨(r18words_r0 (⟨x0.kind, x0.text, x0.keys, x0.kids⟩ : Node)).kind, (r18words_r0 (⟨x0.kind, x0.text, x0.keys, x0.kids⟩ : Node)).text, (r18words_r0 (⟨x0.kind, x0.text, x0.keys, x0.kids⟩ : Node)).keys, (r18words_r0 (⟨x0.kind, x0.text, x0.keys, x0.kids⟩ : Node)).kids⟩ : Node)⟩, ⟨.bool, (r18words_r1 (⟨x0.kind, x0.text, x0.keys, x0.kids⟩ : Node))⟩] else none) else (bif (bif (x1 == (6 : Int)) then true else (x1 == (7 : Int))) then (bif (okPr (⟨x0.kind, x0.text, x0.keys, x0.kids⟩ : Node) (x1 == (6 : Int))) then some [⟨.api_Node, (⟨(r18pairs_r0 (⟨x0.kind, x0.text, x0.keys, x0.kids⟩ : Node) (x1 == (6 : Int))).kind, (r18pairs_r0 (⟨x0.kind, x0.text, x0.keys, x0.kids⟩ : Node) (x1 == (6 : Int))).text, (r18pairs_r0 (⟨x0.kind, x0.text, x0.keys, x0.kids⟩ : Node) (x1 == (6 : Int))).keys, (r18pairs_r0 (⟨x0.kind, x0.text, x0.keys, x0.kids⟩ : Node) (x1 == (6 : Int))).kids⟩ : Node)⟩, ⟨.bool, (r18pairs_r1 (⟨x0.kind, x0.text, x0.keys, x0.kids⟩ : Node) (x1 == (6 : Int)))⟩] else none) else (bif (x1 == (8 : Int)) then (bif (okN (⟨x0.kind, x0.text, x0.keys, x0.kids⟩ : Node)) then some [⟨.api_Node, (⟨(r18set_r0 (⟨x0.kind, x0.text, x0.keys, x0.kids⟩ : Node)).kind, (r18set_r0 (⟨x0.kind, x0.text, x0.keys, x0.kids⟩ : Node)).text, (r18set_r0 (⟨x0.kind, x0.text, x0.keys, x0.kids⟩ : Node)).keys, (r18set_r0 (⟨x0.kind, x0.text, x0.keys, x0.kids⟩ : Node)).kids⟩ : Node)⟩, ⟨.bool, (r18set_r1 (⟨x0.kind, x0.text, x0.keys, x0.kids⟩ : Node))⟩] else none) else (bif (x1 == (9 : Int)) then (bif (okN (⟨x0.kind, x0.text, x0.keys, x0.kids⟩ : Node)) then some [⟨.api_Node, (⟨(r18ports_r0 (⟨x0.kind, x0.text, x0.keys, x0.kids⟩ : Node)).kind, (r18ports_r0 (⟨x0.kind, x0.text, x0.keys, x0.kids⟩ : Node)).text, (r18ports_r0 (⟨x0.kind, x0.text, x0.keys, x0.kids⟩ : Node)).keys, (r18ports_r0 (⟨x0.kind, x0.text, x0.keys, x0.kids⟩ : Node)).kids⟩ : Node)⟩, ⟨.bool, (r18ports_r1 (⟨x0.kind, x0.text, x0.keys, x0.kids⟩ : Node))⟩] else none) else (bif (x1 == (10 : Int)) then (bif (okN (⟨x0.kind, x0.text, x0.keys, x0.kids⟩ : Node)) then some [⟨.api_Node, (⟨(r18mounts_r0 (⟨x0.kind, x0.text, x0.keys, x0.kids⟩ : Node)).kind, (r18mounts_r0 (⟨x0.kind, x0.text, x0.keys, x0.kids⟩ : Node)).text, (r18mounts_r0 (⟨x0.kind, x0.text, x0.keys, x0.kids⟩ : Node)).keys, (r18mounts_r0 (⟨x0.kind, x0.text, x0.keys, x0.kids⟩ : Node)).kids⟩ : Node)⟩, ⟨.bool, (r18mounts_r1 (⟨x0.kind, x0.text, x0.keys, x0.kids⟩ : Node))⟩] else none) else (bif (x1 == (11 : Int)) then (bif (okN (⟨x0.kind, x0.text, x0.keys, x0.kids⟩ : Node)) then some [⟨.api_Node, (⟨(r18deps_r0 (⟨x0.kind, x0.text, x0.keys, x0.kids⟩ : Node)).kind, (r18deps_r0 (⟨x0.kind, x0.text, x0.keys, x0.kids⟩ : Node)).text, (r18deps_r0 (⟨x0.kind, x0.text, x0.keys, x0.kids⟩ : Node)).keys, (r18deps_r0 (⟨x0.kind, x0.text, x0.keys, x0.kids⟩ : Node)).kids⟩ : Node)⟩, ⟨.bool, (r18deps_r1 (⟨x0.kind, x0.text, x0.keys, x0.kids⟩ : Node))⟩] else none) else (bif (x1 == (12 : Int)) then (bif (okN (⟨x0.kind, x0.text, x0.keys, x0.kids⟩ : Node)) then some [⟨.api_Node, (⟨(r18ext_r0 (⟨x0.kind, x0.text, x0.keys, x0.kids⟩ : Node)).kind, (r18ext_r0 (⟨x0.kind, x0.text, x0.keys, x0.kids⟩ : Node)).text, (r18ext_r0 (⟨x0.kind, x0.text, x0.keys, x0.kids⟩ : Node)).keys, (r18ext_r0 (⟨x0.kind, x0.text, x0.keys, x0.kids⟩ : Node)).kids⟩ : Node)⟩, ⟨.bool, (r18ext_r1 (⟨x0.kind, x0.text, x0.keys, x0.kids⟩ : Node))⟩] else none) else (bif (okN (⟨x0.kind, x0.text, x0.keys, x0.kids⟩ : Node)) then some [⟨.api_Node, (⟨(r18health_r0 (⟨x0.kind, x0.text, x0.keys, x0.kids⟩ : Node)).kind, (r18health_r0 (⟨x0.kind, x0.text, x0.keys, x0.kids⟩ : Node)).text, (r18health_r0 (⟨x0.kind, x0.text, x0.keys, x0.kids⟩ : Node)).keys, (r18health_r0 (⟨x0.kind, x0.text, x0.keys, x0.kids⟩ : Node)).kids⟩ : Node)⟩, ⟨.bool, (r18health_r1 (⟨x0.kind, x0.text, x0.keys, x0.kids⟩ : Node))⟩] else none))))))))
theorem r18fieldk_e (G : Nat → ASt E → Option (List (TV E))) (x0 : Node) (x1 : Int) : runE r18fieldk_O r18fieldk_H G Tryz.f37 [⟨.api_Node, x0⟩, ⟨.int, x1⟩] = r18fieldk_t G x0 x1 := by kernel_rfl
theorem r18fieldk_f : Tryz.prog.funcs[37]? = some Tryz.f37 := by kernel_rfl
theorem r18fieldk_n : (Tryz.f37.name == "runtime.NumGoroutine") = false := by kernel_rfl
theorem r18fieldk_b : Tryz.f37.body.isNone = false := by kernel_rfl
theorem r18fieldk_ex : ∃ fn, Tryz.prog.funcs[37]? = some fn ∧ (fn.name == "runtime.NumGoroutine") = false ∧ fn.body.isNone = false := ⟨Tryz.f37, r18fieldk_f, r18fieldk_n, r18fieldk_b⟩
theorem r18fieldk_hO : OracleOk E r18fieldk_O := orac_ok (.cons r18deps_ok (.cons r18ext_ok (.cons r18health_ok (.cons r18mounts_ok (.cons r18one_ok (.cons r18pairs_ok (.cons r18ports_ok (.cons r18set_ok (.cons r18words_ok .nil))))))))) .nil .nil .nil
def r18fieldk_any (x0 : Node) (x1 : Int) (p : Node × Bool) : Prop := r18fieldk_t (Gr E Tryz.f37 [⟨.api_Node, p.1⟩, ⟨.bool, p.2⟩]) x0 x1 = some [⟨.api_Node, p.1⟩, ⟨.bool, p.2⟩] ∧ fldPr x0 x1 p
noncomputable def r18fieldk_p (x0 : Node) (x1 : Int) : Node × Bool := @Classical.epsilon _ ⟨(dflt .api_Node, dflt .bool)⟩ (r18fieldk_any x0 x1)
noncomputable def r18fieldk_r0 (x0 : Node) (x1 : Int) : Node := (r18fieldk_p x0 x1).1
noncomputable def r18fieldk_r1 (x0 : Node) (x1 : Int) : Bool := (r18fieldk_p x0 x1).2
theorem r18fieldk_spec (x0 : Node) (x1 : Int) (h : ∃ p, r18fieldk_any x0 x1 p) : r18fieldk_any x0 x1 (r18fieldk_p x0 x1) := Classical.epsilon_spec h
noncomputable def r18fieldk_W : FnW E := fn22 (E := E) .api_Node .int .api_Node .bool okFd r18fieldk_r0 r18fieldk_r1
def r18fieldk_id : FuncId := 37
theorem r18fieldk_ok_of (h : ∀ (x0 : Node) (x1 : Int), okFd x0 x1 = true → r18fieldk_t (Gr E Tryz.f37 [⟨.api_Node, r18fieldk_r0 x0 x1⟩, ⟨.bool, r18fieldk_r1 x0 x1⟩]) x0 x1 = some [⟨.api_Node, r18fieldk_r0 x0 x1⟩, ⟨.bool, r18fieldk_r1 x0 x1⟩]) : FnOk E r18fieldk_id r18fieldk_W := fn22_ok r18fieldk_hO mix r18fieldk_f r18fieldk_n r18fieldk_b (fun x0 x1 hk => (r18fieldk_e _ x0 x1).trans (h x0 x1 hk))
theorem m1_fld {n : Node} {k : Int} {p : Node × Bool} (h : m1P p) (hk : shOf k = .map fun _ => .leaf) : fldPr n k p := fun hp => ⟨.inr (by rw [hk]; exact (h hp).1), fun d q _ _ => wg_to (h hp).2 (by omega)⟩
theorem r18fieldk_tot (n : Node) (k : Int) (hn : okN n = true) : ∃ p, r18fieldk_any n k p := by
  have flip : (∃ p, fldPr n k p ∧ r18fieldk_t (Gr E Tryz.f37 [⟨.api_Node, p.1⟩, ⟨.bool, p.2⟩]) n k = some [⟨.api_Node, p.1⟩, ⟨.bool, p.2⟩]) → ∃ p, r18fieldk_any n k p := fun ⟨p, h1, h2⟩ => ⟨p, h2, h1⟩
  refine flip ?_
  have o1 : ∀ k, okOne n k = true := fun _ => hn
  have o2 : ∀ b, okPr n b = true := fun _ => hn
  simp only [r18fieldk_t, node_eta, hn, o1, o2, cond_true]
  by_cases h5 : k < 5
  · have hs : shOf k = .leaf := by unfold shOf; rw [dT (by omega)]; rfl
    rw [dT h5]
    refine ⟨(_, _), fun hp => ?_, rfl⟩
    obtain ⟨a1, a2⟩ := r18one_pr k hn hp
    exact ⟨.inr (by rw [hs]; exact fun h3 => absurd (a1.symm.trans h3) (by decide)), fun d q _ _ => wg_to a2 (by omega)⟩
  · rw [dF h5]
    by_cases e5 : k = 5
    · have hs : shOf k = .leaf := by unfold shOf; rw [dT (by omega)]; rfl
      rw [eqT e5]
      refine ⟨(_, _), fun hp => ?_, rfl⟩
      obtain ⟨a1, a2⟩ := r18words_pr hn hp
      exact ⟨.inr (by rw [hs]; exact fun h3 => absurd (a1.symm.trans h3) (by decide)), fun d q _ _ => wg_to a2 (by omega)⟩
    · rw [eqF e5]
      by_cases e11 : k = 11
      · subst e11
        refine ⟨(_, _), fun hp => ?_, rfl⟩
        obtain ⟨a1, a2⟩ := r18deps_pr hn hp
        exact ⟨.inr a1, fun d q _ _ => wg_to a2 q⟩
      · have hs : shOf k = .map fun _ => .leaf := by unfold shOf; rw [dF (by omega), eqF e11]; rfl
        by_cases e6 : k = 6
        · subst e6; exact ⟨(_, _), m1_fld (r18pairs_pr true hn) hs, rfl⟩
        · by_cases e7 : k = 7
          · subst e7; exact ⟨(_, _), m1_fld (r18pairs_pr false hn) hs, rfl⟩
          · rw [eqF e6, eqF e7]
            by_cases e8 : k = 8
            · subst e8; exact ⟨(_, _), m1_fld (r18set_pr hn) hs, rfl⟩
            · by_cases e9 : k = 9
              · subst e9; exact ⟨(_, _), m1_fld (r18ports_pr hn) hs, rfl⟩
              · by_cases e10 : k = 10
                · subst e10; exact ⟨(_, _), m1_fld (r18mounts_pr hn) hs, rfl⟩
                · rw [eqF e8, eqF e9, eqF e10, eqF e11]
                  by_cases e12 : k = 12
                  · subst e12; exact ⟨(_, _), fun hp => ⟨.inl rfl, r18ext_pr hn hp⟩, rfl⟩
                  · rw [eqF e12]; exact ⟨(_, _), m1_fld (r18health_pr hn) hs, rfl⟩
theorem r18fieldk_ok : FnOk E r18fieldk_id r18fieldk_W := r18fieldk_ok_of fun n k hk => (r18fieldk_spec n k (r18fieldk_tot n k hk)).1
theorem r18fieldk_pr {n : Node} (k : Int) (hk : okN n = true) : fldPr n k (r18fieldk_p n k) := (r18fieldk_spec n k (r18fieldk_tot n k hk)).2
end Go.Proofs.YtoelhlikomifjaaGreat.Rf