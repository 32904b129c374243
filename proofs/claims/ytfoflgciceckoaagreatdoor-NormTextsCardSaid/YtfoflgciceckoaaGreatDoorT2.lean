/- The program's fields of one text. -/
import Derived.Test.YtfoflgciceckoaaGreatDoorT1
import Derived.Test.YtfoflgciceckoaaGreatDoorMirX
namespace Go.Proofs.YtfoflgciceckoaaGreatDoor.Rf
open Go Go.RowKit Go.Sort Go.Proofs.YtfoflgciceckoaaGreatDoor.Mir
/-! ### Package norm: fields of one text: when a container is started again; how many there are; an image -/
def okT1 (s : List UInt8) : Bool := decide (s.length ≤ 1000000)
theorem okT1_iff {s : List UInt8} : okT1 s = true ↔ s.length ≤ 1000000 := by simp [okT1]
def onfS : List UInt8 := [111, 110, 45, 102, 97, 105, 108, 117, 114, 101, 58]
def plainB (s : List UInt8) : Bool := bif (bif (bif s == [110, 111] then true else s == [97, 108, 119, 97, 121, 115]) then true else s == [117, 110, 108, 101, 115, 115, 45, 115, 116, 111, 112, 112, 101, 100]) then true else s == [111, 110, 45, 102, 97, 105, 108, 117, 114, 101]
def restB (s : List UInt8) : Bool := bif (bif decide ((11 : Int) ≤ (s.length : Int)) then s.take 11 == onfS else false) then (bif pwholeE (s.drop 11) 10 == 0 then decide ((0 : Int) < pwholeV (s.drop 11) 10) else false) else plainB s
noncomputable def rest1_W : FnW E := fn1 (E := E) .str .bool okT1 restB
def rest1_id : FuncId := 56
noncomputable def rest1_O : Oracle E := withI (orac [(58, dcount_W)] [] [] []) [(57, Tryz.f57), (114, Tryz.f114), (159, Tryz.f159)]
noncomputable def rest1_H : Hint E := Hint.mk [] [] [] [] []
noncomputable def rest1_t (_G : Nat → ASt E → Option (List (TV E))) (x0 : List UInt8) : Option (List (TV E)) :=
  bif ((decide ((0 : Int) ≤ (0 : Int)) && decide ((0 : Int) ≤ (11 : Int)) && decide ((11 : Int) ≤ (x0.length : Int))) || !(decide ((11 : Int) ≤ (x0.length : Int)))) then (bif (!(bif (decide ((11 : Int) ≤ (x0.length : Int))) then ((List.take (Int.toNat (11 : Int) - Int.toNat (0 : Int)) (List.drop (Int.toNat (0 : Int)) x0)) == ([111, 110, 45, 102, 97, 105, 108, 117, 114, 101, 58] : List UInt8)) else false)) then some [⟨.bool, (bif (bif (bif (x0 == ([110, 111] : List UInt8)) then true else (x0 == ([97, 108, 119, 97, 121, 115] : List UInt8))) then true else (x0 == ([117, 110, 108, 101, 115, 115, 45, 115, 116, 111, 112, 112, 101, 100] : List UInt8))) then true else (x0 == ([111, 110, 45, 102, 97, 105, 108, 117, 114, 101] : List UInt8)))⟩] else (bif (decide ((0 : Int) ≤ (11 : Int)) && decide ((11 : Int) ≤ (x0.length : Int)) && decide ((x0.length : Int) ≤ (x0.length : Int))) then (bif (pokW (List.take (Int.toNat (x0.length : Int) - Int.toNat (11 : Int)) (List.drop (Int.toNat (11 : Int)) x0)) (10 : Int)) then some [⟨.bool, (bif ((pwholeE (List.take (Int.toNat (x0.length : Int) - Int.toNat (11 : Int)) (List.drop (Int.toNat (11 : Int)) x0)) (10 : Int)) == (0 : Int)) then (decide ((0 : Int) < (pwholeV (List.take (Int.toNat (x0.length : Int) - Int.toNat (11 : Int)) (List.drop (Int.toNat (11 : Int)) x0)) (10 : Int)))) else false)⟩] else none) else none)) else none
theorem rest1_e (G : Nat → ASt E → Option (List (TV E))) (x0 : List UInt8) : runE rest1_O rest1_H G Tryz.f56 [⟨.str, x0⟩] = rest1_t G x0 := by kernel_rfl
theorem rest1_f : Tryz.prog.funcs[56]? = some Tryz.f56 := by kernel_rfl
theorem rest1_n : (Tryz.f56.name == "runtime.NumGoroutine") = false := by kernel_rfl
theorem rest1_b : Tryz.f56.body.isNone = false := by kernel_rfl
theorem rest1_ex : ∃ fn, Tryz.prog.funcs[56]? = some fn ∧ (fn.name == "runtime.NumGoroutine") = false ∧ fn.body.isNone = false := ⟨Tryz.f56, rest1_f, rest1_n, rest1_b⟩
theorem rest1_hO : OracleOk E rest1_O := withI_ok (orac_ok (.cons dcount_ok .nil) .nil .nil .nil) mix (.cons (f := 57) (fn := Tryz.f57) (by kernel_rfl) (by kernel_rfl) (by kernel_rfl) (.cons (f := 114) (fn := Tryz.f114) (by kernel_rfl) (by kernel_rfl) (by kernel_rfl) (.cons (f := 159) (fn := Tryz.f159) (by kernel_rfl) (by kernel_rfl) (by kernel_rfl) .nil)))
theorem rest1_ok_of (h : ∀ (x0 : List UInt8), okT1 x0 = true → rest1_t (Gr E Tryz.f56 [⟨.bool, restB x0⟩]) x0 = some [⟨.bool, restB x0⟩]) : FnOk E rest1_id rest1_W := fn1_ok rest1_hO mix rest1_f rest1_n rest1_b (fun x0 hk => (rest1_e _ x0).trans (h x0 hk))
theorem rest1_ok : FnOk E rest1_id rest1_W := rest1_ok_of fun s hk => by
  have hs := okT1_iff.1 hk
  have e11 : Int.toNat (11 : Int) = 11 := rfl
  have e0 : Int.toNat (0 : Int) = 0 := rfl
  have ec : s.take (s.length - 11 + 11) = s := List.take_of_length_le (by omega)
  have ed : List.take (s.length - 11) (List.drop 11 s) = s.drop 11 := List.take_of_length_le (by rw [List.length_drop]; exact Nat.le_refl _)
  have ok : pokW (s.drop 11) 10 = true := pokW_iff.2 ⟨⟨by rw [List.length_drop]; omega, by decide⟩, by decide⟩
  simp only [rest1_t, e11, e0, List.drop_zero, Nat.sub_zero, Int.toNat_natCast, ed, ok]
  unfold restB
  by_cases h : (11 : Int) ≤ (s.length : Int)
  · rw [dT h]
    have e3 : (decide ((0 : Int) ≤ 11) && true && decide ((s.length : Int) ≤ (s.length : Int))) = true := by rw [dlr]; rfl
    have e4 : (decide ((0 : Int) ≤ 0) && decide ((0 : Int) ≤ 11) && true || !true) = true := rfl
    simp only [e3, e4, cond_true]
    change (bif !(s.take 11 == onfS) then _ else _) = _
    cases s.take 11 == onfS <;> rfl
  · rw [dF h]
    have e4 : (decide ((0 : Int) ≤ 0) && decide ((0 : Int) ≤ 11) && false || !false) = true := rfl
    simp only [e4, cond_true, cond_false, Bool.not_false]
    rfl
def cnt1B (s : List UInt8) : Bool := pwholeE s 8 == 0
noncomputable def cnt1_W : FnW E := fn1 (E := E) .str .bool okT1 cnt1B
def cnt1_id : FuncId := 64
noncomputable def cnt1_O : Oracle E := orac [(58, dcount_W)] [] [] []
noncomputable def cnt1_H : Hint E := Hint.mk [] [] [] [] []
noncomputable def cnt1_t (_G : Nat → ASt E → Option (List (TV E))) (x0 : List UInt8) : Option (List (TV E)) :=
  bif (pokW x0 (8 : Int)) then some [⟨.bool, ((pwholeE x0 (8 : Int)) == (0 : Int))⟩] else none
theorem cnt1_e (G : Nat → ASt E → Option (List (TV E))) (x0 : List UInt8) : runE cnt1_O cnt1_H G Tryz.f64 [⟨.str, x0⟩] = cnt1_t G x0 := by kernel_rfl
theorem cnt1_f : Tryz.prog.funcs[64]? = some Tryz.f64 := by kernel_rfl
theorem cnt1_n : (Tryz.f64.name == "runtime.NumGoroutine") = false := by kernel_rfl
theorem cnt1_b : Tryz.f64.body.isNone = false := by kernel_rfl
theorem cnt1_ex : ∃ fn, Tryz.prog.funcs[64]? = some fn ∧ (fn.name == "runtime.NumGoroutine") = false ∧ fn.body.isNone = false := ⟨Tryz.f64, cnt1_f, cnt1_n, cnt1_b⟩
theorem cnt1_hO : OracleOk E cnt1_O := orac_ok (.cons dcount_ok .nil) .nil .nil .nil
theorem cnt1_ok_of (h : ∀ (x0 : List UInt8), okT1 x0 = true → cnt1_t (Gr E Tryz.f64 [⟨.bool, cnt1B x0⟩]) x0 = some [⟨.bool, cnt1B x0⟩]) : FnOk E cnt1_id cnt1_W := fn1_ok cnt1_hO mix cnt1_f cnt1_n cnt1_b (fun x0 hk => (cnt1_e _ x0).trans (h x0 hk))
theorem cnt1_ok : FnOk E cnt1_id cnt1_W := cnt1_ok_of fun s hk => by
  have ok : pokW s 8 = true := pokW_iff.2 ⟨⟨okT1_iff.1 hk, by decide⟩, by decide⟩
  simp only [cnt1_t, ok, cond_true]
  rfl
def line1B (s : List UInt8) : Bool := bif !(s == []) then decide ((s.length : Int) ≤ 64) else false
noncomputable def line1_W : FnW E := fn1 (E := E) .str .bool (fun _ => true) line1B
def line1_id : FuncId := 65
noncomputable def line1_O : Oracle E := orac [] [] [] []
noncomputable def line1_H : Hint E := Hint.mk [] [] [] [] []
noncomputable def line1_t (_G : Nat → ASt E → Option (List (TV E))) (x0 : List UInt8) : Option (List (TV E)) :=
  some [⟨.bool, (bif (!(x0 == ([] : List UInt8))) then (decide ((x0.length : Int) ≤ (64 : Int))) else false)⟩]
theorem line1_e (G : Nat → ASt E → Option (List (TV E))) (x0 : List UInt8) : runE line1_O line1_H G Tryz.f65 [⟨.str, x0⟩] = line1_t G x0 := by kernel_rfl
theorem line1_f : Tryz.prog.funcs[65]? = some Tryz.f65 := by kernel_rfl
theorem line1_n : (Tryz.f65.name == "runtime.NumGoroutine") = false := by kernel_rfl
theorem line1_b : Tryz.f65.body.isNone = false := by kernel_rfl
theorem line1_ex : ∃ fn, Tryz.prog.funcs[65]? = some fn ∧ (fn.name == "runtime.NumGoroutine") = false ∧ fn.body.isNone = false := ⟨Tryz.f65, line1_f, line1_n, line1_b⟩
theorem line1_hO : OracleOk E line1_O := orac_ok .nil .nil .nil .nil
theorem line1_ok_of (h : ∀ (x0 : List UInt8), line1_t (Gr E Tryz.f65 [⟨.bool, line1B x0⟩]) x0 = some [⟨.bool, line1B x0⟩]) : FnOk E line1_id line1_W := fn1_ok line1_hO mix line1_f line1_n line1_b (fun x0 _ => (line1_e _ x0).trans (h x0))
theorem line1_ok : FnOk E line1_id line1_W := line1_ok_of fun s => rfl
/-- The form of a text that is right. -/
def txX (f : List UInt8 → Bool) (n : Node) : Bool := bif n.kind != 1 then true else !(f n.text)
def txV (f : List UInt8 → Bool) (n : Node) : Node := bif txX f n then zn else n
def txE (f : List UInt8 → Bool) (n : Node) : Int := bif txX f n then 10 else 0
def okTf (n : Node) : Bool := decide (n.text.length ≤ 1000000)
theorem txR {f : List UInt8 → Bool} {n : Node} : (bif (bif n.kind != 1 then true else !(f n.text)) then some ([⟨.api_Node, (⟨0, [], [], []⟩ : Node)⟩, ⟨.api_Errno, (10 : Int)⟩] : List (TV E)) else some [⟨.api_Node, n⟩, ⟨.api_Errno, (0 : Int)⟩]) = some [⟨.api_Node, txV f n⟩, ⟨.api_Errno, txE f n⟩] := by
  unfold txV txE
  change (bif txX f n then _ else _) = _
  cases txX f n <;> rfl
noncomputable def nrest_W : FnW E := fn12 (E := E) .api_Node .api_Node .api_Errno okTf (txV restB) (txE restB)
def nrest_id : FuncId := 22
noncomputable def nrest_O : Oracle E := withI (orac [(56, rest1_W)] [] [] []) [(20, Tryz.f20), (55, Tryz.f55)]
noncomputable def nrest_H : Hint E := Hint.mk [] [] [] [] []
noncomputable def nrest_t (_G : Nat → ASt E → Option (List (TV E))) (x0 : Node) : Option (List (TV E)) :=
  bif ((okT1 x0.text) || !(!(x0.kind != (1 : Int)))) then (bif (bif (x0.kind != (1 : Int)) then true else (!(restB x0.text))) then some [⟨.api_Node, (⟨(0 : Int), ([] : List UInt8), ([] : List (List UInt8)), ([] : List Node)⟩ : Node)⟩, ⟨.api_Errno, (10 : Int)⟩] else some [⟨.api_Node, (⟨x0.kind, x0.text, x0.keys, x0.kids⟩ : Node)⟩, ⟨.api_Errno, (0 : Int)⟩]) else none
theorem nrest_e (G : Nat → ASt E → Option (List (TV E))) (x0 : Node) : runE nrest_O nrest_H G Tryz.f22 [⟨.api_Node, x0⟩] = nrest_t G x0 := by kernel_rfl
theorem nrest_f : Tryz.prog.funcs[22]? = some Tryz.f22 := by kernel_rfl
theorem nrest_n : (Tryz.f22.name == "runtime.NumGoroutine") = false := by kernel_rfl
theorem nrest_b : Tryz.f22.body.isNone = false := by kernel_rfl
theorem nrest_ex : ∃ fn, Tryz.prog.funcs[22]? = some fn ∧ (fn.name == "runtime.NumGoroutine") = false ∧ fn.body.isNone = false := ⟨Tryz.f22, nrest_f, nrest_n, nrest_b⟩
theorem nrest_hO : OracleOk E nrest_O := withI_ok (orac_ok (.cons rest1_ok .nil) .nil .nil .nil) mix (.cons (f := 20) (fn := Tryz.f20) (by kernel_rfl) (by kernel_rfl) (by kernel_rfl) (.cons (f := 55) (fn := Tryz.f55) (by kernel_rfl) (by kernel_rfl) (by kernel_rfl) .nil))
theorem nrest_ok_of (h : ∀ (x0 : Node), okTf x0 = true → nrest_t (Gr E Tryz.f22 [⟨.api_Node, (txV restB) x0⟩, ⟨.api_Errno, (txE restB) x0⟩]) x0 = some [⟨.api_Node, (txV restB) x0⟩, ⟨.api_Errno, (txE restB) x0⟩]) : FnOk E nrest_id nrest_W := fn12_ok nrest_hO mix nrest_f nrest_n nrest_b (fun x0 hk => (nrest_e _ x0).trans (h x0 hk))
theorem nrest_ok : FnOk E nrest_id nrest_W := nrest_ok_of fun n hk => by
  have ok : okT1 n.text = true := hk
  simp only [nrest_t, ok, Bool.true_or, cond_true, node_eta]
  exact txR
noncomputable def ncnt_W : FnW E := fn12 (E := E) .api_Node .api_Node .api_Errno okTf (txV cnt1B) (txE cnt1B)
def ncnt_id : FuncId := 25
noncomputable def ncnt_O : Oracle E := withI (orac [(64, cnt1_W)] [] [] []) [(20, Tryz.f20), (55, Tryz.f55)]
noncomputable def ncnt_H : Hint E := Hint.mk [] [] [] [] []
noncomputable def ncnt_t (_G : Nat → ASt E → Option (List (TV E))) (x0 : Node) : Option (List (TV E)) :=
  bif ((okT1 x0.text) || !(!(x0.kind != (1 : Int)))) then (bif (bif (x0.kind != (1 : Int)) then true else (!(cnt1B x0.text))) then some [⟨.api_Node, (⟨(0 : Int), ([] : List UInt8), ([] : List (List UInt8)), ([] : List Node)⟩ : Node)⟩, ⟨.api_Errno, (10 : Int)⟩] else some [⟨.api_Node, (⟨x0.kind, x0.text, x0.keys, x0.kids⟩ : Node)⟩, ⟨.api_Errno, (0 : Int)⟩]) else none
theorem ncnt_e (G : Nat → ASt E → Option (List (TV E))) (x0 : Node) : runE ncnt_O ncnt_H G Tryz.f25 [⟨.api_Node, x0⟩] = ncnt_t G x0 := by kernel_rfl
theorem ncnt_f : Tryz.prog.funcs[25]? = some Tryz.f25 := by kernel_rfl
theorem ncnt_n : (Tryz.f25.name == "runtime.NumGoroutine") = false := by kernel_rfl
theorem ncnt_b : Tryz.f25.body.isNone = false := by kernel_rfl
theorem ncnt_ex : ∃ fn, Tryz.prog.funcs[25]? = some fn ∧ (fn.name == "runtime.NumGoroutine") = false ∧ fn.body.isNone = false := ⟨Tryz.f25, ncnt_f, ncnt_n, ncnt_b⟩
theorem ncnt_hO : OracleOk E ncnt_O := withI_ok (orac_ok (.cons cnt1_ok .nil) .nil .nil .nil) mix (.cons (f := 20) (fn := Tryz.f20) (by kernel_rfl) (by kernel_rfl) (by kernel_rfl) (.cons (f := 55) (fn := Tryz.f55) (by kernel_rfl) (by kernel_rfl) (by kernel_rfl) .nil))
theorem ncnt_ok_of (h : ∀ (x0 : Node), okTf x0 = true → ncnt_t (Gr E Tryz.f25 [⟨.api_Node, (txV cnt1B) x0⟩, ⟨.api_Errno, (txE cnt1B) x0⟩]) x0 = some [⟨.api_Node, (txV cnt1B) x0⟩, ⟨.api_Errno, (txE cnt1B) x0⟩]) : FnOk E ncnt_id ncnt_W := fn12_ok ncnt_hO mix ncnt_f ncnt_n ncnt_b (fun x0 hk => (ncnt_e _ x0).trans (h x0 hk))
theorem ncnt_ok : FnOk E ncnt_id ncnt_W := ncnt_ok_of fun n hk => by
  have ok : okT1 n.text = true := hk
  simp only [ncnt_t, ok, Bool.true_or, cond_true, node_eta]
  exact txR
noncomputable def nline_W : FnW E := fn12 (E := E) .api_Node .api_Node .api_Errno (fun _ => true) (txV line1B) (txE line1B)
def nline_id : FuncId := 26
noncomputable def nline_O : Oracle E := withI (orac [(65, line1_W)] [] [] []) [(20, Tryz.f20), (55, Tryz.f55)]
noncomputable def nline_H : Hint E := Hint.mk [] [] [] [] []
noncomputable def nline_t (_G : Nat → ASt E → Option (List (TV E))) (x0 : Node) : Option (List (TV E)) :=
  bif (bif (x0.kind != (1 : Int)) then true else (!(line1B x0.text))) then some [⟨.api_Node, (⟨(0 : Int), ([] : List UInt8), ([] : List (List UInt8)), ([] : List Node)⟩ : Node)⟩, ⟨.api_Errno, (10 : Int)⟩] else some [⟨.api_Node, (⟨x0.kind, x0.text, x0.keys, x0.kids⟩ : Node)⟩, ⟨.api_Errno, (0 : Int)⟩]
theorem nline_e (G : Nat → ASt E → Option (List (TV E))) (x0 : Node) : runE nline_O nline_H G Tryz.f26 [⟨.api_Node, x0⟩] = nline_t G x0 := by kernel_rfl
theorem nline_f : Tryz.prog.funcs[26]? = some Tryz.f26 := by kernel_rfl
theorem nline_n : (Tryz.f26.name == "runtime.NumGoroutine") = false := by kernel_rfl
theorem nline_b : Tryz.f26.body.isNone = false := by kernel_rfl
theorem nline_ex : ∃ fn, Tryz.prog.funcs[26]? = some fn ∧ (fn.name == "runtime.NumGoroutine") = false ∧ fn.body.isNone = false := ⟨Tryz.f26, nline_f, nline_n, nline_b⟩
theorem nline_hO : OracleOk E nline_O := withI_ok (orac_ok (.cons line1_ok .nil) .nil .nil .nil) mix (.cons (f := 20) (fn := Tryz.f20) (by kernel_rfl) (by kernel_rfl) (by kernel_rfl) (.cons (f := 55) (fn := Tryz.f55) (by kernel_rfl) (by kernel_rfl) (by kernel_rfl) .nil))
theorem nline_ok_of (h : ∀ (x0 : Node), nline_t (Gr E Tryz.f26 [⟨.api_Node, (txV line1B) x0⟩, ⟨.api_Errno, (txE line1B) x0⟩]) x0 = some [⟨.api_Node, (txV line1B) x0⟩, ⟨.api_Errno, (txE line1B) x0⟩]) : FnOk E nline_id nline_W := fn12_ok nline_hO mix nline_f nline_n nline_b (fun x0 _ => (nline_e _ x0).trans (h x0))
theorem nline_ok : FnOk E nline_id nline_W := nline_ok_of fun n => by
  simp only [nline_t, node_eta]
  exact txR
end Go.Proofs.YtfoflgciceckoaaGreatDoor.Rf