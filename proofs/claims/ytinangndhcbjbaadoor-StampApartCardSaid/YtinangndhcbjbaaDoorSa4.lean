/- 'StampApart' of chapter 27, closed: what the law's function computes (by the Mirror) gives the given statement, without conditions. -/
import Derived.Test.YtinangndhcbjbaaDoorSa3
import Derived.Deep.Slices
import Derived.ChangeSame
import Derived.ChangeArms
import Derived.Test.YtinangndhcbjbaaDoorCards
import Derived.Test.YtinangndhcbjbaaDoorTie
import Derived.WalkKit
import Derived.ProofKit
import Derived.OpenShut
import Derived.ChangeOld
import Derived.Below
import Derived.Carry
import Derived.Lay
import Derived.LaidMore
import Derived.SevenTiedAt
import Derived.Stop.Joined
namespace Go.Proofs.YtinangndhcbjbaaDoor.Rf
open Go Go.RowKit Go.Sort Go.Proofs.YtinangndhcbjbaaDoor.Mir
def p1B (c : Int) : Bool := bif smallB c then true else numberB c
def p2B (c : Int) : Bool := bif (bif (bif smallB c then true else numberB c) then true else c == 45) then true else c == 95
def s1B (c : Int) : Bool := bif letterB c then true else numberB c
def s2B (c : Int) : Bool := bif (bif (bif (bif letterB c then true else numberB c) then true else c == 45) then true else c == 95) then true else c == 46
noncomputable def np1_W : FnW E := fn1 (E := E) .byte .bool (fun _ => true) p1B
def np1_id : FuncId := 24
noncomputable def np1_O : Oracle E := orac [(26, nnumber_W), (25, nsmall_W)] [] [] []
noncomputable def np1_H : Hint E := Hint.mk [] [] [] [] [] 5 []
noncomputable def np1_t (_G : Nat → ASt E → Option (List (TV E))) (x0 : Int) : Option (List (TV E)) :=
  some [⟨.bool, (bif (smallB x0) then true else (numberB x0))⟩]
theorem np1_e (G : Nat → ASt E → Option (List (TV E))) (x0 : Int) : runE np1_O np1_H G Tryd.f24 [⟨.byte, x0⟩] = np1_t G x0 := by kernel_rfl
theorem np1_f : Tryd.prog.funcs[24]? = some Tryd.f24 := by kernel_rfl
theorem np1_n : (Tryd.f24.name == "runtime.NumGoroutine") = false := by kernel_rfl
theorem np1_b : Tryd.f24.body.isNone = false := by kernel_rfl
theorem np1_hO : OracleOk E np1_O := orac_ok (.cons nnumber_ok (.cons nsmall_ok .nil)) .nil .nil .nil
theorem np1_ok_of (h : ∀ (x0 : Int), np1_t (Gr E Tryd.f24 [⟨.bool, p1B x0⟩]) x0 = some [⟨.bool, p1B x0⟩]) : FnOk E np1_id np1_W := fn1_ok np1_hO mix np1_f np1_n np1_b (fun x0 _ => (np1_e _ x0).trans (h x0))
theorem np1_ok : FnOk E np1_id np1_W := np1_ok_of fun c => rfl
noncomputable def np2_W : FnW E := fn1 (E := E) .byte .bool (fun _ => true) p2B
def np2_id : FuncId := 27
noncomputable def np2_O : Oracle E := orac [(26, nnumber_W), (25, nsmall_W)] [] [] []
noncomputable def np2_H : Hint E := Hint.mk [] [] [] [] [] 5 []
noncomputable def np2_t (_G : Nat → ASt E → Option (List (TV E))) (x0 : Int) : Option (List (TV E)) :=
  some [⟨.bool, (bif (bif (bif (smallB x0) then true else (numberB x0)) then true else (x0 == (45 : Int))) then true else (x0 == (95 : Int)))⟩]
theorem np2_e (G : Nat → ASt E → Option (List (TV E))) (x0 : Int) : runE np2_O np2_H G Tryd.f27 [⟨.byte, x0⟩] = np2_t G x0 := by kernel_rfl
theorem np2_f : Tryd.prog.funcs[27]? = some Tryd.f27 := by kernel_rfl
theorem np2_n : (Tryd.f27.name == "runtime.NumGoroutine") = false := by kernel_rfl
theorem np2_b : Tryd.f27.body.isNone = false := by kernel_rfl
theorem np2_hO : OracleOk E np2_O := orac_ok (.cons nnumber_ok (.cons nsmall_ok .nil)) .nil .nil .nil
theorem np2_ok_of (h : ∀ (x0 : Int), np2_t (Gr E Tryd.f27 [⟨.bool, p2B x0⟩]) x0 = some [⟨.bool, p2B x0⟩]) : FnOk E np2_id np2_W := fn1_ok np2_hO mix np2_f np2_n np2_b (fun x0 _ => (np2_e _ x0).trans (h x0))
theorem np2_ok : FnOk E np2_id np2_W := np2_ok_of fun c => rfl
noncomputable def ns1_W : FnW E := fn1 (E := E) .byte .bool (fun _ => true) s1B
def ns1_id : FuncId := 28
noncomputable def ns1_O : Oracle E := orac [(29, nletter_W), (26, nnumber_W)] [] [] []
noncomputable def ns1_H : Hint E := Hint.mk [] [] [] [] [] 5 []
noncomputable def ns1_t (_G : Nat → ASt E → Option (List (TV E))) (x0 : Int) : Option (List (TV E)) :=
  some [⟨.bool, (bif (letterB x0) then true else (numberB x0))⟩]
theorem ns1_e (G : Nat → ASt E → Option (List (TV E))) (x0 : Int) : runE ns1_O ns1_H G Tryd.f28 [⟨.byte, x0⟩] = ns1_t G x0 := by kernel_rfl
theorem ns1_f : Tryd.prog.funcs[28]? = some Tryd.f28 := by kernel_rfl
theorem ns1_n : (Tryd.f28.name == "runtime.NumGoroutine") = false := by kernel_rfl
theorem ns1_b : Tryd.f28.body.isNone = false := by kernel_rfl
theorem ns1_hO : OracleOk E ns1_O := orac_ok (.cons nletter_ok (.cons nnumber_ok .nil)) .nil .nil .nil
theorem ns1_ok_of (h : ∀ (x0 : Int), ns1_t (Gr E Tryd.f28 [⟨.bool, s1B x0⟩]) x0 = some [⟨.bool, s1B x0⟩]) : FnOk E ns1_id ns1_W := fn1_ok ns1_hO mix ns1_f ns1_n ns1_b (fun x0 _ => (ns1_e _ x0).trans (h x0))
theorem ns1_ok : FnOk E ns1_id ns1_W := ns1_ok_of fun c => rfl
noncomputable def ns2_W : FnW E := fn1 (E := E) .byte .bool (fun _ => true) s2B
def ns2_id : FuncId := 30
noncomputable def ns2_O : Oracle E := orac [(29, nletter_W), (26, nnumber_W)] [] [] []
noncomputable def ns2_H : Hint E := Hint.mk [] [] [] [] [] 5 []
noncomputable def ns2_t (_G : Nat → ASt E → Option (List (TV E))) (x0 : Int) : Option (List (TV E)) :=
  some [⟨.bool, (bif (bif (bif (bif (letterB x0) then true else (numberB x0)) then true else (x0 == (45 : Int))) then true else (x0 == (95 : Int))) then true else (x0 == (46 : Int)))⟩]
theorem ns2_e (G : Nat → ASt E → Option (List (TV E))) (x0 : Int) : runE ns2_O ns2_H G Tryd.f30 [⟨.byte, x0⟩] = ns2_t G x0 := by kernel_rfl
theorem ns2_f : Tryd.prog.funcs[30]? = some Tryd.f30 := by kernel_rfl
theorem ns2_n : (Tryd.f30.name == "runtime.NumGoroutine") = false := by kernel_rfl
theorem ns2_b : Tryd.f30.body.isNone = false := by kernel_rfl
theorem ns2_hO : OracleOk E ns2_O := orac_ok (.cons nletter_ok (.cons nnumber_ok .nil)) .nil .nil .nil
theorem ns2_ok_of (h : ∀ (x0 : Int), ns2_t (Gr E Tryd.f30 [⟨.bool, s2B x0⟩]) x0 = some [⟨.bool, s2B x0⟩]) : FnOk E ns2_id ns2_W := fn1_ok ns2_hO mix ns2_f ns2_n ns2_b (fun x0 _ => (ns2_e _ x0).trans (h x0))
theorem ns2_ok : FnOk E ns2_id ns2_W := ns2_ok_of fun c => rfl
def ofV (f g : Int → Bool) (s : List UInt8) : Bool := bif (bif (bif decide ((s.length : Int) < 1) then true else decide ((24 : Int) < (s.length : Int))) then true else !(f (Int.ofNat (List.getD s (Int.toNat 0) 0).toNat))) then false else (s.drop 1).all fun c => g (Int.ofNat c.toNat)
theorem of_in (s : List UInt8) : ((decide ((0 : Int) ≤ 0) && decide ((0 : Int) < (s.length : Int))) || !(!(bif decide ((s.length : Int) < 1) then true else decide ((24 : Int) < (s.length : Int))))) = true := by
  cases s with
  | nil => rfl
  | cons c t => rw [dT (show (0 : Int) < ((c :: t).length : Int) by rw [List.length_cons]; omega)]; rfl
def okP (s : List UInt8) (f g : Nat) : Bool := decide (f = 24) && (decide (g = 27) && decide (s.length ≤ 1000000))
theorem okP_iff {s : List UInt8} {f g : Nat} : okP s f g = true ↔ f = 24 ∧ g = 27 ∧ s.length ≤ 1000000 := by simp [okP]
def ofP (s : List UInt8) (_ _ : Nat) : Bool := ofV p1B p2B s
noncomputable def nofp_W : FnW E := fn3 (E := E) .str .fn43 .fn43 .bool okP ofP
def nofp_id : FuncId := 23
noncomputable def nofp_O : Oracle E := orac [(24, np1_W), (27, np2_W)] [] [] []
noncomputable def nofp_H : Hint E := Hint.mk [(0, [0, 2, 7])] [] [] [] [] 5 []
noncomputable def nofp_C0 (v0 : List UInt8) (v1 : Int) : ASt E := ASt.mk 35 [(0, .d (.str v0)), (2, .d (.raw (.func (.func 27) #[] #[]))), (7, .d (.int .i64 v1))] [] 0
noncomputable def nofp_t (G : Nat → ASt E → Option (List (TV E))) (x0 : List UInt8) : Option (List (TV E)) :=
  bif ((decide ((0 : Int) ≤ (0 : Int)) && decide ((0 : Int) < (x0.length : Int))) || !(!(bif (decide ((x0.length : Int) < (1 : Int))) then true else (decide ((24 : Int) < (x0.length : Int)))))) then (bif (bif (bif (decide ((x0.length : Int) < (1 : Int))) then true else (decide ((24 : Int) < (x0.length : Int)))) then true else (!(p1B (((List.getD x0 (Int.toNat 0) 0).toNat : Nat) : Int)))) then some [⟨.bool, false⟩] else G 0 (nofp_C0 x0 1)) else none
theorem nofp_e (G : Nat → ASt E → Option (List (TV E))) (x0 : List UInt8) : runE nofp_O nofp_H G Tryd.f23 [⟨.str, x0⟩, ⟨.fn43, 24⟩, ⟨.fn43, 27⟩] = nofp_t G x0 := by kernel_rfl
noncomputable def nofp_t0 (G : Nat → ASt E → Option (List (TV E))) (v0 : List UInt8) (v1 : Int) : Option (List (TV E)) :=
  bif (decide (v1 < (v0.length : Int))) then (bif (decide ((0 : Int) ≤ v1) && decide (v1 < (v0.length : Int))) then (bif (!(p2B (((List.getD v0 (Int.toNat v1) 0).toNat : Nat) : Int))) then some [⟨.bool, false⟩] else G 0 (nofp_C0 v0 (w64 (v1 + (1 : Int))))) else none) else some [⟨.bool, true⟩]
theorem nofp_l0 (G : Nat → ASt E → Option (List (TV E))) (v0 : List UInt8) (v1 : Int) : runL nofp_O nofp_H G Tryd.f23 0 (nofp_C0 v0 v1) = nofp_t0 G v0 v1 := by kernel_rfl
theorem nofp_f : Tryd.prog.funcs[23]? = some Tryd.f23 := by kernel_rfl
theorem nofp_n : (Tryd.f23.name == "runtime.NumGoroutine") = false := by kernel_rfl
theorem nofp_b : Tryd.f23.body.isNone = false := by kernel_rfl
theorem nofp_hO : OracleOk E nofp_O := orac_ok (.cons np1_ok (.cons np2_ok .nil)) .nil .nil .nil
theorem nofp_s0 {res : List (TV E)} {v0 : List UInt8} {v1 : Int} (h : nofp_t0 (Gr E Tryd.f23 res) v0 v1 = some res) : Ev E Tryd.f23 res 0 (nofp_C0 v0 v1) := Ev.step nofp_hO mix ((nofp_l0 _ v0 v1).trans h)
theorem nofp_ok_of (hs1 : ∀ (x0 : List UInt8) (x1 : Nat) (x2 : Nat), okP x0 x1 x2 = true → x1 = 24) (hs2 : ∀ (x0 : List UInt8) (x1 : Nat) (x2 : Nat), okP x0 x1 x2 = true → x2 = 27) (h : ∀ (x0 : List UInt8), okP x0 24 27 = true → nofp_t (Gr E Tryd.f23 [⟨.bool, ofP x0 24 27⟩]) x0 = some [⟨.bool, ofP x0 24 27⟩]) : FnOk E nofp_id nofp_W := fn3_ok nofp_hO mix nofp_f nofp_n nofp_b (fun x0 x1 x2 hk => by have e1 := hs1 x0 x1 x2 hk; have e2 := hs2 x0 x1 x2 hk; subst e1; subst e2; exact (nofp_e _ x0).trans (h x0 hk))
theorem nofp_loop (s : List UInt8) (hs : s.length ≤ 1000000) : ∀ (m i : Nat), s.length - i = m → i ≤ s.length →
    Ev E Tryd.f23 [⟨.bool, (s.drop i).all fun c => p2B (Int.ofNat c.toNat)⟩] 0 (nofp_C0 s i) := by
  intro m
  induction m with
  | zero =>
    intro i h1 h2
    refine nofp_s0 ?_
    simp only [nofp_t0, dge (show s.length ≤ i by omega), cond_false, List.drop_eq_nil_of_le (show s.length ≤ i by omega)]
    rfl
  | succ m ih =>
    intro i h1 h2
    have hi : i < s.length := by omega
    have e3 : w64 ((i : Int) + 1) = ((i + 1 : Nat) : Int) := by rw [w64_id (by omega) (by omega)]; omega
    refine nofp_s0 ?_
    simp only [nofp_t0, dlt hi, d0, gd s _ i hi, Bool.and_self, cond_true, e3]
    rw [← List.getElem_cons_drop hi, List.all_cons]
    cases p2B (Int.ofNat s[i].toNat) with
    | false => rfl
    | true => exact Gr_of (ih (i + 1) (by omega) (by omega))
theorem nofp_ok : FnOk E nofp_id nofp_W := nofp_ok_of (fun s f g h => (okP_iff.1 h).1) (fun s f g h => (okP_iff.1 h).2.1) fun s hk => by
  have hs := (okP_iff.1 hk).2.2
  simp only [nofp_t, ofP, ofV]
  rw [of_in s, cond_true]
  cases hb : (bif (bif decide ((s.length : Int) < 1) then true else decide ((24 : Int) < (s.length : Int))) then true else !(p1B (Int.ofNat (List.getD s (Int.toNat 0) 0).toNat))) with
  | true => rfl
  | false =>
    simp only [cond_false]
    have h1 : 1 ≤ s.length := by
      by_cases a : (s.length : Int) < 1
      · rw [dT a] at hb; cases hb
      · omega
    exact Gr_of (nofp_loop s hs _ 1 rfl h1)
noncomputable def nproject_W : FnW E := fn1 (E := E) .str .bool okL1 (ofV p1B p2B)
def nproject_id : FuncId := 14
noncomputable def nproject_O : Oracle E := orac [(23, nofp_W)] [] [] []
noncomputable def nproject_H : Hint E := Hint.mk [] [] [] [] [] 5 []
noncomputable def nproject_t (_G : Nat → ASt E → Option (List (TV E))) (x0 : List UInt8) : Option (List (TV E)) :=
  bif (okP x0 24 27) then some [⟨.bool, (ofP x0 24 27)⟩] else none
theorem nproject_e (G : Nat → ASt E → Option (List (TV E))) (x0 : List UInt8) : runE nproject_O nproject_H G Tryd.f14 [⟨.str, x0⟩] = nproject_t G x0 := by kernel_rfl
theorem nproject_f : Tryd.prog.funcs[14]? = some Tryd.f14 := by kernel_rfl
theorem nproject_n : (Tryd.f14.name == "runtime.NumGoroutine") = false := by kernel_rfl
theorem nproject_b : Tryd.f14.body.isNone = false := by kernel_rfl
theorem nproject_hO : OracleOk E nproject_O := orac_ok (.cons nofp_ok .nil) .nil .nil .nil
theorem nproject_ok_of (h : ∀ (x0 : List UInt8), okL1 x0 = true → nproject_t (Gr E Tryd.f14 [⟨.bool, (ofV p1B p2B) x0⟩]) x0 = some [⟨.bool, (ofV p1B p2B) x0⟩]) : FnOk E nproject_id nproject_W := fn1_ok nproject_hO mix nproject_f nproject_n nproject_b (fun x0 hk => (nproject_e _ x0).trans (h x0 hk))
theorem nproject_ok : FnOk E nproject_id nproject_W := nproject_ok_of fun s hk => by
  have hs : s.length ≤ 1000000 := by simpa [okL1] using hk
  have e : okP s 24 27 = true := okP_iff.2 ⟨rfl, rfl, hs⟩
  simp only [nproject_t, e, cond_true]
  rfl
def okS (s : List UInt8) (f g : Nat) : Bool := decide (f = 28) && (decide (g = 30) && decide (s.length ≤ 1000000))
theorem okS_iff {s : List UInt8} {f g : Nat} : okS s f g = true ↔ f = 28 ∧ g = 30 ∧ s.length ≤ 1000000 := by simp [okS]
def ofS (s : List UInt8) (_ _ : Nat) : Bool := ofV s1B s2B s
noncomputable def nofs_W : FnW E := fn3 (E := E) .str .fn43 .fn43 .bool okS ofS
def nofs_id : FuncId := 23
noncomputable def nofs_O : Oracle E := orac [(28, ns1_W), (30, ns2_W)] [] [] []
noncomputable def nofs_H : Hint E := Hint.mk [(0, [0, 2, 7])] [] [] [] [] 5 []
noncomputable def nofs_C0 (v0 : List UInt8) (v1 : Int) : ASt E := ASt.mk 35 [(0, .d (.str v0)), (2, .d (.raw (.func (.func 30) #[] #[]))), (7, .d (.int .i64 v1))] [] 0
noncomputable def nofs_t (G : Nat → ASt E → Option (List (TV E))) (x0 : List UInt8) : Option (List (TV E)) :=
  bif ((decide ((0 : Int) ≤ (0 : Int)) && decide ((0 : Int) < (x0.length : Int))) || !(!(bif (decide ((x0.length : Int) < (1 : Int))) then true else (decide ((24 : Int) < (x0.length : Int)))))) then (bif (bif (bif (decide ((x0.length : Int) < (1 : Int))) then true else (decide ((24 : Int) < (x0.length : Int)))) then true else (!(s1B (((List.getD x0 (Int.toNat 0) 0).toNat : Nat) : Int)))) then some [⟨.bool, false⟩] else G 0 (nofs_C0 x0 1)) else none
theorem nofs_e (G : Nat → ASt E → Option (List (TV E))) (x0 : List UInt8) : runE nofs_O nofs_H G Tryd.f23 [⟨.str, x0⟩, ⟨.fn43, 28⟩, ⟨.fn43, 30⟩] = nofs_t G x0 := by kernel_rfl
noncomputable def nofs_t0 (G : Nat → ASt E → Option (List (TV E))) (v0 : List UInt8) (v1 : Int) : Option (List (TV E)) :=
  bif (decide (v1 < (v0.length : Int))) then (bif (decide ((0 : Int) ≤ v1) && decide (v1 < (v0.length : Int))) then (bif (!(s2B (((List.getD v0 (Int.toNat v1) 0).toNat : Nat) : Int))) then some [⟨.bool, false⟩] else G 0 (nofs_C0 v0 (w64 (v1 + (1 : Int))))) else none) else some [⟨.bool, true⟩]
theorem nofs_l0 (G : Nat → ASt E → Option (List (TV E))) (v0 : List UInt8) (v1 : Int) : runL nofs_O nofs_H G Tryd.f23 0 (nofs_C0 v0 v1) = nofs_t0 G v0 v1 := by kernel_rfl
theorem nofs_f : Tryd.prog.funcs[23]? = some Tryd.f23 := by kernel_rfl
theorem nofs_n : (Tryd.f23.name == "runtime.NumGoroutine") = false := by kernel_rfl
theorem nofs_b : Tryd.f23.body.isNone = false := by kernel_rfl
theorem nofs_hO : OracleOk E nofs_O := orac_ok (.cons ns1_ok (.cons ns2_ok .nil)) .nil .nil .nil
theorem nofs_s0 {res : List (TV E)} {v0 : List UInt8} {v1 : Int} (h : nofs_t0 (Gr E Tryd.f23 res) v0 v1 = some res) : Ev E Tryd.f23 res 0 (nofs_C0 v0 v1) := Ev.step nofs_hO mix ((nofs_l0 _ v0 v1).trans h)
theorem nofs_ok_of (hs1 : ∀ (x0 : List UInt8) (x1 : Nat) (x2 : Nat), okS x0 x1 x2 = true → x1 = 28) (hs2 : ∀ (x0 : List UInt8) (x1 : Nat) (x2 : Nat), okS x0 x1 x2 = true → x2 = 30) (h : ∀ (x0 : List UInt8), okS x0 28 30 = true → nofs_t (Gr E Tryd.f23 [⟨.bool, ofS x0 28 30⟩]) x0 = some [⟨.bool, ofS x0 28 30⟩]) : FnOk E nofs_id nofs_W := fn3_ok nofs_hO mix nofs_f nofs_n nofs_b (fun x0 x1 x2 hk => by have e1 := hs1 x0 x1 x2 hk; have e2 := hs2 x0 x1 x2 hk; subst e1; subst e2; exact (nofs_e _ x0).trans (h x0 hk))
theorem nofs_loop (s : List UInt8) (hs : s.length ≤ 1000000) : ∀ (m i : Nat), s.length - i = m → i ≤ s.length →
    Ev E Tryd.f23 [⟨.bool, (s.drop i).all fun c => s2B (Int.ofNat c.toNat)⟩] 0 (nofs_C0 s i) := by
  intro m
  induction m with
  | zero =>
    intro i h1 h2
    refine nofs_s0 ?_
    simp only [nofs_t0, dge (show s.length ≤ i by omega), cond_false, List.drop_eq_nil_of_le (show s.length ≤ i by omega)]
    rfl
  | succ m ih =>
    intro i h1 h2
    have hi : i < s.length := by omega
    have e3 : w64 ((i : Int) + 1) = ((i + 1 : Nat) : Int) := by rw [w64_id (by omega) (by omega)]; omega
    refine nofs_s0 ?_
    simp only [nofs_t0, dlt hi, d0, gd s _ i hi, Bool.and_self, cond_true, e3]
    rw [← List.getElem_cons_drop hi, List.all_cons]
    cases s2B (Int.ofNat s[i].toNat) with
    | false => rfl
    | true => exact Gr_of (ih (i + 1) (by omega) (by omega))
theorem nofs_ok : FnOk E nofs_id nofs_W := nofs_ok_of (fun s f g h => (okS_iff.1 h).1) (fun s f g h => (okS_iff.1 h).2.1) fun s hk => by
  have hs := (okS_iff.1 hk).2.2
  simp only [nofs_t, ofS, ofV]
  rw [of_in s, cond_true]
  cases hb : (bif (bif decide ((s.length : Int) < 1) then true else decide ((24 : Int) < (s.length : Int))) then true else !(s1B (Int.ofNat (List.getD s (Int.toNat 0) 0).toNat))) with
  | true => rfl
  | false =>
    simp only [cond_false]
    have h1 : 1 ≤ s.length := by
      by_cases a : (s.length : Int) < 1
      · rw [dT a] at hb; cases hb
      · omega
    exact Gr_of (nofs_loop s hs _ 1 rfl h1)
noncomputable def nservice_W : FnW E := fn1 (E := E) .str .bool okL1 (ofV s1B s2B)
def nservice_id : FuncId := 15
noncomputable def nservice_O : Oracle E := orac [(23, nofs_W)] [] [] []
noncomputable def nservice_H : Hint E := Hint.mk [] [] [] [] [] 5 []
noncomputable def nservice_t (_G : Nat → ASt E → Option (List (TV E))) (x0 : List UInt8) : Option (List (TV E)) :=
  bif (okS x0 28 30) then some [⟨.bool, (ofS x0 28 30)⟩] else none
theorem nservice_e (G : Nat → ASt E → Option (List (TV E))) (x0 : List UInt8) : runE nservice_O nservice_H G Tryd.f15 [⟨.str, x0⟩] = nservice_t G x0 := by kernel_rfl
theorem nservice_f : Tryd.prog.funcs[15]? = some Tryd.f15 := by kernel_rfl
theorem nservice_n : (Tryd.f15.name == "runtime.NumGoroutine") = false := by kernel_rfl
theorem nservice_b : Tryd.f15.body.isNone = false := by kernel_rfl
theorem nservice_hO : OracleOk E nservice_O := orac_ok (.cons nofs_ok .nil) .nil .nil .nil
theorem nservice_ok_of (h : ∀ (x0 : List UInt8), okL1 x0 = true → nservice_t (Gr E Tryd.f15 [⟨.bool, (ofV s1B s2B) x0⟩]) x0 = some [⟨.bool, (ofV s1B s2B) x0⟩]) : FnOk E nservice_id nservice_W := fn1_ok nservice_hO mix nservice_f nservice_n nservice_b (fun x0 hk => (nservice_e _ x0).trans (h x0 hk))
theorem nservice_ok : FnOk E nservice_id nservice_W := nservice_ok_of fun s hk => by
  have hs : s.length ≤ 1000000 := by simpa [okL1] using hk
  have e : okS s 28 30 = true := okS_iff.2 ⟨rfl, rfl, hs⟩
  simp only [nservice_t, e, cond_true]
  rfl
theorem bytes_all {p : Nat → Bool} (h : (List.range 256).all p = true) (c : UInt8) : p c.toNat = true := List.all_eq_true.1 h _ (List.mem_range.2 c.toNat_lt)
theorem p1_bad (c : UInt8) : (!(p1B (Int.ofNat c.toNat))) = badP c true := beq_iff_eq.1 (bytes_all (p := fun n => (!(p1B (Int.ofNat n))) == (bif (bif (bif kindV (Int.ofNat n) == 0 then true else kindV (Int.ofNat n) == 2) then true else kindV (Int.ofNat n) == 6) then true else (bif true then decide (3 < kindV (Int.ofNat n)) else false))) (by decide +kernel) c)
theorem p2_bad (c : UInt8) : (!(p2B (Int.ofNat c.toNat))) = badP c false := beq_iff_eq.1 (bytes_all (p := fun n => (!(p2B (Int.ofNat n))) == (bif (bif (bif kindV (Int.ofNat n) == 0 then true else kindV (Int.ofNat n) == 2) then true else kindV (Int.ofNat n) == 6) then true else (bif false then decide (3 < kindV (Int.ofNat n)) else false))) (by decide +kernel) c)
theorem s1_bad (c : UInt8) : (!(s1B (Int.ofNat c.toNat))) = badS c true := beq_iff_eq.1 (bytes_all (p := fun n => (!(s1B (Int.ofNat n))) == (bif kindV (Int.ofNat n) == 0 then true else (bif true then decide (3 < kindV (Int.ofNat n)) else false))) (by decide +kernel) c)
theorem s2_bad (c : UInt8) : (!(s2B (Int.ofNat c.toNat))) = badS c false := beq_iff_eq.1 (bytes_all (p := fun n => (!(s2B (Int.ofNat n))) == (bif kindV (Int.ofNat n) == 0 then true else (bif false then decide (3 < kindV (Int.ofNat n)) else false))) (by decide +kernel) c)
theorem nmL_all {f : UInt8 → Bool → Bool} {g : Int → Bool} (h : ∀ c : UInt8, (!(g (Int.ofNat c.toNat))) = f c false) : ∀ s : List UInt8, nmL f s false = s.all fun c => g (Int.ofNat c.toNat)
  | [] => rfl
  | c :: t => by
    have hc := h c
    rw [List.all_cons, ← nmL_all h t]
    simp only [nmL, ← hc]
    cases g (Int.ofNat c.toNat) <;> rfl
theorem ofV_eq {f : UInt8 → Bool → Bool} {g1 g2 : Int → Bool} (h1 : ∀ c : UInt8, (!(g1 (Int.ofNat c.toNat))) = f c true) (h2 : ∀ c : UInt8, (!(g2 (Int.ofNat c.toNat))) = f c false) (s : List UInt8) : ofV g1 g2 s = nameV f s := by
  unfold ofV nameV
  cases s with
  | nil => rfl
  | cons c t =>
    cases (bif decide ((((c :: t).length : Nat) : Int) < 1) then true else decide ((24 : Int) < (((c :: t).length : Nat) : Int))) with
    | true => rfl
    | false =>
      have e : List.getD (c :: t) (Int.toNat 0) 0 = c := rfl
      have e2 : (c :: t).drop 1 = t := rfl
      simp only [cond_false, nmL, e, e2, h1, nmL_all h2]
theorem project_eq (s : List UInt8) : ofV p1B p2B s = nameV badP s := ofV_eq p1_bad p2_bad s
theorem service_eq (s : List UInt8) : ofV s1B s2B s = nameV badS s := ofV_eq s1_bad s2_bad s
def c8 (y : Int) : UInt8 := UInt8.ofNat (Int.toNat y)
def sgn (neg : Bool) : List UInt8 := bif neg then [45] else []
noncomputable def dgtext_W : FnW E := fn1 (E := E) .int .str okI textV
def dgtext_id : FuncId := 19
noncomputable def dgtext_O : Oracle E := orac [] [] [] []
noncomputable def dgtext_H : Hint E := Hint.mk [(0, [3, 4, 5, 6])] [] [] [] [(13, [3])] 5 []
noncomputable def dgtext_C0_0 (v0 : Bool) (v1 v2 v3 v4 v5 v6 v7 v8 v9 v10 v11 v12 v13 v14 v15 v16 v17 v18 v19 v20 v21 : Int) : ASt E := ASt.mk 34 [(3, .ptr 0 0), (4, .d (.int .i64 (0 : Int))), (5, .d (.bool v0)), (6, .d (.int .u64 v1))] [(0, .box [.d (.int .u8 v2), .d (.int .u8 v3), .d (.int .u8 v4), .d (.int .u8 v5), .d (.int .u8 v6), .d (.int .u8 v7), .d (.int .u8 v8), .d (.int .u8 v9), .d (.int .u8 v10), .d (.int .u8 v11), .d (.int .u8 v12), .d (.int .u8 v13), .d (.int .u8 v14), .d (.int .u8 v15), .d (.int .u8 v16), .d (.int .u8 v17), .d (.int .u8 v18), .d (.int .u8 v19), .d (.int .u8 v20), .d (.int .u8 v21)])] 1
noncomputable def dgtext_C0_1 (v0 : Bool) (v1 v2 v3 v4 v5 v6 v7 v8 v9 v10 v11 v12 v13 v14 v15 v16 v17 v18 v19 v20 v21 : Int) : ASt E := ASt.mk 34 [(3, .ptr 0 0), (4, .d (.int .i64 (1 : Int))), (5, .d (.bool v0)), (6, .d (.int .u64 v1))] [(0, .box [.d (.int .u8 v2), .d (.int .u8 v3), .d (.int .u8 v4), .d (.int .u8 v5), .d (.int .u8 v6), .d (.int .u8 v7), .d (.int .u8 v8), .d (.int .u8 v9), .d (.int .u8 v10), .d (.int .u8 v11), .d (.int .u8 v12), .d (.int .u8 v13), .d (.int .u8 v14), .d (.int .u8 v15), .d (.int .u8 v16), .d (.int .u8 v17), .d (.int .u8 v18), .d (.int .u8 v19), .d (.int .u8 v20), .d (.int .u8 v21)])] 1
noncomputable def dgtext_C0_10 (v0 : Bool) (v1 v2 v3 v4 v5 v6 v7 v8 v9 v10 v11 v12 v13 v14 v15 v16 v17 v18 v19 v20 v21 : Int) : ASt E := ASt.mk 34 [(3, .ptr 0 0), (4, .d (.int .i64 (10 : Int))), (5, .d (.bool v0)), (6, .d (.int .u64 v1))] [(0, .box [.d (.int .u8 v2), .d (.int .u8 v3), .d (.int .u8 v4), .d (.int .u8 v5), .d (.int .u8 v6), .d (.int .u8 v7), .d (.int .u8 v8), .d (.int .u8 v9), .d (.int .u8 v10), .d (.int .u8 v11), .d (.int .u8 v12), .d (.int .u8 v13), .d (.int .u8 v14), .d (.int .u8 v15), .d (.int .u8 v16), .d (.int .u8 v17), .d (.int .u8 v18), .d (.int .u8 v19), .d (.int .u8 v20), .d (.int .u8 v21)])] 1
noncomputable def dgtext_C0_11 (v0 : Bool) (v1 v2 v3 v4 v5 v6 v7 v8 v9 v10 v11 v12 v13 v14 v15 v16 v17 v18 v19 v20 v21 : Int) : ASt E := ASt.mk 34 [(3, .ptr 0 0), (4, .d (.int .i64 (11 : Int))), (5, .d (.bool v0)), (6, .d (.int .u64 v1))] [(0, .box [.d (.int .u8 v2), .d (.int .u8 v3), .d (.int .u8 v4), .d (.int .u8 v5), .d (.int .u8 v6), .d (.int .u8 v7), .d (.int .u8 v8), .d (.int .u8 v9), .d (.int .u8 v10), .d (.int .u8 v11), .d (.int .u8 v12), .d (.int .u8 v13), .d (.int .u8 v14), .d (.int .u8 v15), .d (.int .u8 v16), .d (.int .u8 v17), .d (.int .u8 v18), .d (.int .u8 v19), .d (.int .u8 v20), .d (.int .u8 v21)])] 1
noncomputable def dgtext_C0_12 (v0 : Bool) (v1 v2 v3 v4 v5 v6 v7 v8 v9 v10 v11 v12 v13 v14 v15 v16 v17 v18 v19 v20 v21 : Int) : ASt E := ASt.mk 34 [(3, .ptr 0 0), (4, .d (.int .i64 (12 : Int))), (5, .d (.bool v0)), (6, .d (.int .u64 v1))] [(0, .box [.d (.int .u8 v2), .d (.int .u8 v3), .d (.int .u8 v4), .d (.int .u8 v5), .d (.int .u8 v6), .d (.int .u8 v7), .d (.int .u8 v8), .d (.int .u8 v9), .d (.int .u8 v10), .d (.int .u8 v11), .d (.int .u8 v12), .d (.int .u8 v13), .d (.int .u8 v14), .d (.int .u8 v15), .d (.int .u8 v16), .d (.int .u8 v17), .d (.int .u8 v18), .d (.int .u8 v19), .d (.int .u8 v20), .d (.int .u8 v21)])] 1
noncomputable def dgtext_C0_13 (v0 : Bool) (v1 v2 v3 v4 v5 v6 v7 v8 v9 v10 v11 v12 v13 v14 v15 v16 v17 v18 v19 v20 v21 : Int) : ASt E := ASt.mk 34 [(3, .ptr 0 0), (4, .d (.int .i64 (13 : Int))), (5, .d (.bool v0)), (6, .d (.int .u64 v1))] [(0, .box [.d (.int .u8 v2), .d (.int .u8 v3), .d (.int .u8 v4), .d (.int .u8 v5), .d (.int .u8 v6), .d (.int .u8 v7), .d (.int .u8 v8), .d (.int .u8 v9), .d (.int .u8 v10), .d (.int .u8 v11), .d (.int .u8 v12), .d (.int .u8 v13), .d (.int .u8 v14), .d (.int .u8 v15), .d (.int .u8 v16), .d (.int .u8 v17), .d (.int .u8 v18), .d (.int .u8 v19), .d (.int .u8 v20), .d (.int .u8 v21)])] 1
noncomputable def dgtext_C0_14 (v0 : Bool) (v1 v2 v3 v4 v5 v6 v7 v8 v9 v10 v11 v12 v13 v14 v15 v16 v17 v18 v19 v20 v21 : Int) : ASt E := ASt.mk 34 [(3, .ptr 0 0), (4, .d (.int .i64 (14 : Int))), (5, .d (.bool v0)), (6, .d (.int .u64 v1))] [(0, .box [.d (.int .u8 v2), .d (.int .u8 v3), .d (.int .u8 v4), .d (.int .u8 v5), .d (.int .u8 v6), .d (.int .u8 v7), .d (.int .u8 v8), .d (.int .u8 v9), .d (.int .u8 v10), .d (.int .u8 v11), .d (.int .u8 v12), .d (.int .u8 v13), .d (.int .u8 v14), .d (.int .u8 v15), .d (.int .u8 v16), .d (.int .u8 v17), .d (.int .u8 v18), .d (.int .u8 v19), .d (.int .u8 v20), .d (.int .u8 v21)])] 1
noncomputable def dgtext_C0_15 (v0 : Bool) (v1 v2 v3 v4 v5 v6 v7 v8 v9 v10 v11 v12 v13 v14 v15 v16 v17 v18 v19 v20 v21 : Int) : ASt E := ASt.mk 34 [(3, .ptr 0 0), (4, .d (.int .i64 (15 : Int))), (5, .d (.bool v0)), (6, .d (.int .u64 v1))] [(0, .box [.d (.int .u8 v2), .d (.int .u8 v3), .d (.int .u8 v4), .d (.int .u8 v5), .d (.int .u8 v6), .d (.int .u8 v7), .d (.int .u8 v8), .d (.int .u8 v9), .d (.int .u8 v10), .d (.int .u8 v11), .d (.int .u8 v12), .d (.int .u8 v13), .d (.int .u8 v14), .d (.int .u8 v15), .d (.int .u8 v16), .d (.int .u8 v17), .d (.int .u8 v18), .d (.int .u8 v19), .d (.int .u8 v20), .d (.int .u8 v21)])] 1
noncomputable def dgtext_C0_16 (v0 : Bool) (v1 v2 v3 v4 v5 v6 v7 v8 v9 v10 v11 v12 v13 v14 v15 v16 v17 v18 v19 v20 v21 : Int) : ASt E := ASt.mk 34 [(3, .ptr 0 0), (4, .d (.int .i64 (16 : Int))), (5, .d (.bool v0)), (6, .d (.int .u64 v1))] [(0, .box [.d (.int .u8 v2), .d (.int .u8 v3), .d (.int .u8 v4), .d (.int .u8 v5), .d (.int .u8 v6), .d (.int .u8 v7), .d (.int .u8 v8), .d (.int .u8 v9), .d (.int .u8 v10), .d (.int .u8 v11), .d (.int .u8 v12), .d (.int .u8 v13), .d (.int .u8 v14), .d (.int .u8 v15), .d (.int .u8 v16), .d (.int .u8 v17), .d (.int .u8 v18), .d (.int .u8 v19), .d (.int .u8 v20), .d (.int .u8 v21)])] 1
noncomputable def dgtext_C0_17 (v0 : Bool) (v1 v2 v3 v4 v5 v6 v7 v8 v9 v10 v11 v12 v13 v14 v15 v16 v17 v18 v19 v20 v21 : Int) : ASt E := ASt.mk 34 [(3, .ptr 0 0), (4, .d (.int .i64 (17 : Int))), (5, .d (.bool v0)), (6, .d (.int .u64 v1))] [(0, .box [.d (.int .u8 v2), .d (.int .u8 v3), .d (.int .u8 v4), .d (.int .u8 v5), .d (.int .u8 v6), .d (.int .u8 v7), .d (.int .u8 v8), .d (.int .u8 v9), .d (.int .u8 v10), .d (.int .u8 v11), .d (.int .u8 v12), .d (.int .u8 v13), .d (.int .u8 v14), .d (.int .u8 v15), .d (.int .u8 v16), .d (.int .u8 v17), .d (.int .u8 v18), .d (.int .u8 v19), .d (.int .u8 v20), .d (.int .u8 v21)])] 1
noncomputable def dgtext_C0_18 (v0 : Bool) (v1 v2 v3 v4 v5 v6 v7 v8 v9 v10 v11 v12 v13 v14 v15 v16 v17 v18 v19 v20 v21 : Int) : ASt E := ASt.mk 34 [(3, .ptr 0 0), (4, .d (.int .i64 (18 : Int))), (5, .d (.bool v0)), (6, .d (.int .u64 v1))] [(0, .box [.d (.int .u8 v2), .d (.int .u8 v3), .d (.int .u8 v4), .d (.int .u8 v5), .d (.int .u8 v6), .d (.int .u8 v7), .d (.int .u8 v8), .d (.int .u8 v9), .d (.int .u8 v10), .d (.int .u8 v11), .d (.int .u8 v12), .d (.int .u8 v13), .d (.int .u8 v14), .d (.int .u8 v15), .d (.int .u8 v16), .d (.int .u8 v17), .d (.int .u8 v18), .d (.int .u8 v19), .d (.int .u8 v20), .d (.int .u8 v21)])] 1
noncomputable def dgtext_C0_19 (v0 : Bool) (v1 v2 v3 v4 v5 v6 v7 v8 v9 v10 v11 v12 v13 v14 v15 v16 v17 v18 v19 v20 v21 : Int) : ASt E := ASt.mk 34 [(3, .ptr 0 0), (4, .d (.int .i64 (19 : Int))), (5, .d (.bool v0)), (6, .d (.int .u64 v1))] [(0, .box [.d (.int .u8 v2), .d (.int .u8 v3), .d (.int .u8 v4), .d (.int .u8 v5), .d (.int .u8 v6), .d (.int .u8 v7), .d (.int .u8 v8), .d (.int .u8 v9), .d (.int .u8 v10), .d (.int .u8 v11), .d (.int .u8 v12), .d (.int .u8 v13), .d (.int .u8 v14), .d (.int .u8 v15), .d (.int .u8 v16), .d (.int .u8 v17), .d (.int .u8 v18), .d (.int .u8 v19), .d (.int .u8 v20), .d (.int .u8 v21)])] 1
noncomputable def dgtext_C0_2 (v0 : Bool) (v1 v2 v3 v4 v5 v6 v7 v8 v9 v10 v11 v12 v13 v14 v15 v16 v17 v18 v19 v20 v21 : Int) : ASt E := ASt.mk 34 [(3, .ptr 0 0), (4, .d (.int .i64 (2 : Int))), (5, .d (.bool v0)), (6, .d (.int .u64 v1))] [(0, .box [.d (.int .u8 v2), .d (.int .u8 v3), .d (.int .u8 v4), .d (.int .u8 v5), .d (.int .u8 v6), .d (.int .u8 v7), .d (.int .u8 v8), .d (.int .u8 v9), .d (.int .u8 v10), .d (.int .u8 v11), .d (.int .u8 v12), .d (.int .u8 v13), .d (.int .u8 v14), .d (.int .u8 v15), .d (.int .u8 v16), .d (.int .u8 v17), .d (.int .u8 v18), .d (.int .u8 v19), .d (.int .u8 v20), .d (.int .u8 v21)])] 1
noncomputable def dgtext_C0_20 (v0 : Bool) (v1 v2 v3 v4 v5 v6 v7 v8 v9 v10 v11 v12 v13 v14 v15 v16 v17 v18 v19 v20 v21 : Int) : ASt E := ASt.mk 34 [(3, .ptr 0 0), (4, .d (.int .i64 (20 : Int))), (5, .d (.bool v0)), (6, .d (.int .u64 v1))] [(0, .box [.d (.int .u8 v2), .d (.int .u8 v3), .d (.int .u8 v4), .d (.int .u8 v5), .d (.int .u8 v6), .d (.int .u8 v7), .d (.int .u8 v8), .d (.int .u8 v9), .d (.int .u8 v10), .d (.int .u8 v11), .d (.int .u8 v12), .d (.int .u8 v13), .d (.int .u8 v14), .d (.int .u8 v15), .d (.int .u8 v16), .d (.int .u8 v17), .d (.int .u8 v18), .d (.int .u8 v19), .d (.int .u8 v20), .d (.int .u8 v21)])] 1
noncomputable def dgtext_C0_3 (v0 : Bool) (v1 v2 v3 v4 v5 v6 v7 v8 v9 v10 v11 v12 v13 v14 v15 v16 v17 v18 v19 v20 v21 : Int) : ASt E := ASt.mk 34 [(3, .ptr 0 0), (4, .d (.int .i64 (3 : Int))), (5, .d (.bool v0)), (6, .d (.int .u64 v1))] [(0, .box [.d (.int .u8 v2), .d (.int .u8 v3), .d (.int .u8 v4), .d (.int .u8 v5), .d (.int .u8 v6), .d (.int .u8 v7), .d (.int .u8 v8), .d (.int .u8 v9), .d (.int .u8 v10), .d (.int .u8 v11), .d (.int .u8 v12), .d (.int .u8 v13), .d (.int .u8 v14), .d (.int .u8 v15), .d (.int .u8 v16), .d (.int .u8 v17), .d (.int .u8 v18), .d (.int .u8 v19), .d (.int .u8 v20), .d (.int .u8 v21)])] 1
noncomputable def dgtext_C0_4 (v0 : Bool) (v1 v2 v3 v4 v5 v6 v7 v8 v9 v10 v11 v12 v13 v14 v15 v16 v17 v18 v19 v20 v21 : Int) : ASt E := ASt.mk 34 [(3, .ptr 0 0), (4, .d (.int .i64 (4 : Int))), (5, .d (.bool v0)), (6, .d (.int .u64 v1))] [(0, .box [.d (.int .u8 v2), .d (.int .u8 v3), .d (.int .u8 v4), .d (.int .u8 v5), .d (.int .u8 v6), .d (.int .u8 v7), .d (.int .u8 v8), .d (.int .u8 v9), .d (.int .u8 v10), .d (.int .u8 v11), .d (.int .u8 v12), .d (.int .u8 v13), .d (.int .u8 v14), .d (.int .u8 v15), .d (.int .u8 v16), .d (.int .u8 v17), .d (.int .u8 v18), .d (.int .u8 v19), .d (.int .u8 v20), .d (.int .u8 v21)])] 1
noncomputable def dgtext_C0_5 (v0 : Bool) (v1 v2 v3 v4 v5 v6 v7 v8 v9 v10 v11 v12 v13 v14 v15 v16 v17 v18 v19 v20 v21 : Int) : ASt E := ASt.mk 34 [(3, .ptr 0 0), (4, .d (.int .i64 (5 : Int))), (5, .d (.bool v0)), (6, .d (.int .u64 v1))] [(0, .box [.d (.int .u8 v2), .d (.int .u8 v3), .d (.int .u8 v4), .d (.int .u8 v5), .d (.int .u8 v6), .d (.int .u8 v7), .d (.int .u8 v8), .d (.int .u8 v9), .d (.int .u8 v10), .d (.int .u8 v11), .d (.int .u8 v12), .d (.int .u8 v13), .d (.int .u8 v14), .d (.int .u8 v15), .d (.int .u8 v16), .d (.int .u8 v17), .d (.int .u8 v18), .d (.int .u8 v19), .d (.int .u8 v20), .d (.int .u8 v21)])] 1
noncomputable def dgtext_C0_6 (v0 : Bool) (v1 v2 v3 v4 v5 v6 v7 v8 v9 v10 v11 v12 v13 v14 v15 v16 v17 v18 v19 v20 v21 : Int) : ASt E := ASt.mk 34 [(3, .ptr 0 0), (4, .d (.int .i64 (6 : Int))), (5, .d (.bool v0)), (6, .d (.int .u64 v1))] [(0, .box [.d (.int .u8 v2), .d (.int .u8 v3), .d (.int .u8 v4), .d (.int .u8 v5), .d (.int .u8 v6), .d (.int .u8 v7), .d (.int .u8 v8), .d (.int .u8 v9), .d (.int .u8 v10), .d (.int .u8 v11), .d (.int .u8 v12), .d (.int .u8 v13), .d (.int .u8 v14), .d (.int .u8 v15), .d (.int .u8 v16), .d (.int .u8 v17), .d (.int .u8 v18), .d (.int .u8 v19), .d (.int .u8 v20), .d (.int .u8 v21)])] 1
noncomputable def dgtext_C0_7 (v0 : Bool) (v1 v2 v3 v4 v5 v6 v7 v8 v9 v10 v11 v12 v13 v14 v15 v16 v17 v18 v19 v20 v21 : Int) : ASt E := ASt.mk 34 [(3, .ptr 0 0), (4, .d (.int .i64 (7 : Int))), (5, .d (.bool v0)), (6, .d (.int .u64 v1))] [(0, .box [.d (.int .u8 v2), .d (.int .u8 v3), .d (.int .u8 v4), .d (.int .u8 v5), .d (.int .u8 v6), .d (.int .u8 v7), .d (.int .u8 v8), .d (.int .u8 v9), .d (.int .u8 v10), .d (.int .u8 v11), .d (.int .u8 v12), .d (.int .u8 v13), .d (.int .u8 v14), .d (.int .u8 v15), .d (.int .u8 v16), .d (.int .u8 v17), .d (.int .u8 v18), .d (.int .u8 v19), .d (.int .u8 v20), .d (.int .u8 v21)])] 1
noncomputable def dgtext_C0_8 (v0 : Bool) (v1 v2 v3 v4 v5 v6 v7 v8 v9 v10 v11 v12 v13 v14 v15 v16 v17 v18 v19 v20 v21 : Int) : ASt E := ASt.mk 34 [(3, .ptr 0 0), (4, .d (.int .i64 (8 : Int))), (5, .d (.bool v0)), (6, .d (.int .u64 v1))] [(0, .box [.d (.int .u8 v2), .d (.int .u8 v3), .d (.int .u8 v4), .d (.int .u8 v5), .d (.int .u8 v6), .d (.int .u8 v7), .d (.int .u8 v8), .d (.int .u8 v9), .d (.int .u8 v10), .d (.int .u8 v11), .d (.int .u8 v12), .d (.int .u8 v13), .d (.int .u8 v14), .d (.int .u8 v15), .d (.int .u8 v16), .d (.int .u8 v17), .d (.int .u8 v18), .d (.int .u8 v19), .d (.int .u8 v20), .d (.int .u8 v21)])] 1
noncomputable def dgtext_C0_9 (v0 : Bool) (v1 v2 v3 v4 v5 v6 v7 v8 v9 v10 v11 v12 v13 v14 v15 v16 v17 v18 v19 v20 v21 : Int) : ASt E := ASt.mk 34 [(3, .ptr 0 0), (4, .d (.int .i64 (9 : Int))), (5, .d (.bool v0)), (6, .d (.int .u64 v1))] [(0, .box [.d (.int .u8 v2), .d (.int .u8 v3), .d (.int .u8 v4), .d (.int .u8 v5), .d (.int .u8 v6), .d (.int .u8 v7), .d (.int .u8 v8), .d (.int .u8 v9), .d (.int .u8 v10), .d (.int .u8 v11), .d (.int .u8 v12), .d (.int .u8 v13), .d (.int .u8 v14), .d (.int .u8 v15), .d (.int .u8 v16), .d (.int .u8 v17), .d (.int .u8 v18), .d (.int .u8 v19), .d (.int .u8 v20), .d (.int .u8 v21)])] 1
noncomputable def dgtext_t (G : Nat → ASt E → Option (List (TV E))) (x0 : Int) : Option (List (TV E)) :=
  bif (decide (x0 < (0 : Int))) then G 0 (dgtext_C0_20 (decide (x0 < (0 : Int))) (IntKind.wrap .u64 (0 - (IntKind.wrap .u64 x0))) 0 0 0 0 0 0 0 0 0 0 0 0 0 0 0 0 0 0 0 0) else G 0 (dgtext_C0_20 (decide (x0 < (0 : Int))) (IntKind.wrap .u64 x0) 0 0 0 0 0 0 0 0 0 0 0 0 0 0 0 0 0 0 0 0)
theorem dgtext_e (G : Nat → ASt E → Option (List (TV E))) (x0 : Int) : runE dgtext_O dgtext_H G Tryd.f19 [⟨.int, x0⟩] = dgtext_t G x0 := by kernel_rfl
noncomputable def dgtext_t0_1 (G : Nat → ASt E → Option (List (TV E))) (v0 : Bool) (v1 _v2 v3 v4 v5 v6 v7 v8 v9 v10 v11 v12 v13 v14 v15 v16 v17 v18 v19 v20 v21 : Int) : Option (List (TV E)) :=
  bif (!((10 : Int) == (0 : Int))) then (bif (!((10 : Int) == (0 : Int))) then (bif ((IntKind.wrap .u64 (Int.tdiv v1 (10 : Int))) == (0 : Int)) then (bif v0 then none else (bif (decide ((0 : Int) ≤ (0 : Int)) && decide ((0 : Int) ≤ (20 : Int)) && decide ((20 : Int) ≤ (20 : Int))) then some [⟨.str, (List.map (fun y => UInt8.ofNat (Int.toNat y)) (List.take (Int.toNat 20 - Int.toNat 0) (List.drop (Int.toNat 0) ([(IntKind.wrap .u8 (IntKind.wrap .u64 ((48 : Int) + (Int.tmod v1 (10 : Int))))), v3, v4, v5, v6, v7, v8, v9, v10, v11, v12, v13, v14, v15, v16, v17, v18, v19, v20, v21] : List Int))))⟩] else none)) else G 0 (dgtext_C0_0 v0 (IntKind.wrap .u64 (Int.tdiv v1 (10 : Int))) (IntKind.wrap .u8 (IntKind.wrap .u64 ((48 : Int) + (Int.tmod v1 (10 : Int))))) v3 v4 v5 v6 v7 v8 v9 v10 v11 v12 v13 v14 v15 v16 v17 v18 v19 v20 v21)) else none) else none
theorem dgtext_l0_1 (G : Nat → ASt E → Option (List (TV E))) (v0 : Bool) (v1 v2 v3 v4 v5 v6 v7 v8 v9 v10 v11 v12 v13 v14 v15 v16 v17 v18 v19 v20 v21 : Int) : runL dgtext_O dgtext_H G Tryd.f19 0 (dgtext_C0_1 v0 v1 v2 v3 v4 v5 v6 v7 v8 v9 v10 v11 v12 v13 v14 v15 v16 v17 v18 v19 v20 v21) = dgtext_t0_1 G v0 v1 v2 v3 v4 v5 v6 v7 v8 v9 v10 v11 v12 v13 v14 v15 v16 v17 v18 v19 v20 v21 := by kernel_rfl
noncomputable def dgtext_t0_10 (G : Nat → ASt E → Option (List (TV E))) (v0 : Bool) (v1 v2 v3 v4 v5 v6 v7 v8 v9 v10 _v11 v12 v13 v14 v15 v16 v17 v18 v19 v20 v21 : Int) : Option (List (TV E)) :=
  bif (!((10 : Int) == (0 : Int))) then (bif (!((10 : Int) == (0 : Int))) then (bif ((IntKind.wrap .u64 (Int.tdiv v1 (10 : Int))) == (0 : Int)) then (bif v0 then (bif (decide ((0 : Int) ≤ (8 : Int)) && decide ((8 : Int) ≤ (20 : Int)) && decide ((20 : Int) ≤ (20 : Int))) then some [⟨.str, (List.map (fun y => UInt8.ofNat (Int.toNat y)) (List.take (Int.toNat 20 - Int.toNat 8) (List.drop (Int.toNat 8) ([v2, v3, v4, v5, v6, v7, v8, v9, (45 : Int), (IntKind.wrap .u8 (IntKind.wrap .u64 ((48 : Int) + (Int.tmod v1 (10 : Int))))), v12, v13, v14, v15, v16, v17, v18, v19, v20, v21] : List Int))))⟩] else none) else (bif (decide ((0 : Int) ≤ (9 : Int)) && decide ((9 : Int) ≤ (20 : Int)) && decide ((20 : Int) ≤ (20 : Int))) then some [⟨.str, (List.map (fun y => UInt8.ofNat (Int.toNat y)) (List.take (Int.toNat 20 - Int.toNat 9) (List.drop (Int.toNat 9) ([v2, v3, v4, v5, v6, v7, v8, v9, v10, (IntKind.wrap .u8 (IntKind.wrap .u64 ((48 : Int) + (Int.tmod v1 (10 : Int))))), v12, v13, v14, v15, v16, v17, v18, v19, v20, v21] : List Int))))⟩] else none)) else G 0 (dgtext_C0_9 v0 (IntKind.wrap .u64 (Int.tdiv v1 (10 : Int))) v2 v3 v4 v5 v6 v7 v8 v9 v10 (IntKind.wrap .u8 (IntKind.wrap .u64 ((48 : Int) + (Int.tmod v1 (10 : Int))))) v12 v13 v14 v15 v16 v17 v18 v19 v20 v21)) else none) else none
theorem dgtext_l0_10 (G : Nat → ASt E → Option (List (TV E))) (v0 : Bool) (v1 v2 v3 v4 v5 v6 v7 v8 v9 v10 v11 v12 v13 v14 v15 v16 v17 v18 v19 v20 v21 : Int) : runL dgtext_O dgtext_H G Tryd.f19 0 (dgtext_C0_10 v0 v1 v2 v3 v4 v5 v6 v7 v8 v9 v10 v11 v12 v13 v14 v15 v16 v17 v18 v19 v20 v21) = dgtext_t0_10 G v0 v1 v2 v3 v4 v5 v6 v7 v8 v9 v10 v11 v12 v13 v14 v15 v16 v17 v18 v19 v20 v21 := by kernel_rfl
noncomputable def dgtext_t0_11 (G : Nat → ASt E → Option (List (TV E))) (v0 : Bool) (v1 v2 v3 v4 v5 v6 v7 v8 v9 v10 v11 _v12 v13 v14 v15 v16 v17 v18 v19 v20 v21 : Int) : Option (List (TV E)) :=
  bif (!((10 : Int) == (0 : Int))) then (bif (!((10 : Int) == (0 : Int))) then (bif ((IntKind.wrap .u64 (Int.tdiv v1 (10 : Int))) == (0 : Int)) then (bif v0 then (bif (decide ((0 : Int) ≤ (9 : Int)) && decide ((9 : Int) ≤ (20 : Int)) && decide ((20 : Int) ≤ (20 : Int))) then some [⟨.str, (List.map (fun y => UInt8.ofNat (Int.toNat y)) (List.take (Int.toNat 20 - Int.toNat 9) (List.drop (Int.toNat 9) ([v2, v3, v4, v5, v6, v7, v8, v9, v10, (45 : Int), (IntKind.wrap .u8 (IntKind.wrap .u64 ((48 : Int) + (Int.tmod v1 (10 : Int))))), v13, v14, v15, v16, v17, v18, v19, v20, v21] : List Int))))⟩] else none) else (bif (decide ((0 : Int) ≤ (10 : Int)) && decide ((10 : Int) ≤ (20 : Int)) && decide ((20 : Int) ≤ (20 : Int))) then some [⟨.str, (List.map (fun y => UInt8.ofNat (Int.toNat y)) (List.take (Int.toNat 20 - Int.toNat 10) (List.drop (Int.toNat 10) ([v2, v3, v4, v5, v6, v7, v8, v9, v10, v11, (IntKind.wrap .u8 (IntKind.wrap .u64 ((48 : Int) + (Int.tmod v1 (10 : Int))))), v13, v14, v15, v16, v17, v18, v19, v20, v21] : List Int))))⟩] else none)) else G 0 (dgtext_C0_10 v0 (IntKind.wrap .u64 (Int.tdiv v1 (10 : Int))) v2 v3 v4 v5 v6 v7 v8 v9 v10 v11 (IntKind.wrap .u8 (IntKind.wrap .u64 ((48 : Int) + (Int.tmod v1 (10 : Int))))) v13 v14 v15 v16 v17 v18 v19 v20 v21)) else none) else none
theorem dgtext_l0_11 (G : Nat → ASt E → Option (List (TV E))) (v0 : Bool) (v1 v2 v3 v4 v5 v6 v7 v8 v9 v10 v11 v12 v13 v14 v15 v16 v17 v18 v19 v20 v21 : Int) : runL dgtext_O dgtext_H G Tryd.f19 0 (dgtext_C0_11 v0 v1 v2 v3 v4 v5 v6 v7 v8 v9 v10 v11 v12 v13 v14 v15 v16 v17 v18 v19 v20 v21) = dgtext_t0_11 G v0 v1 v2 v3 v4 v5 v6 v7 v8 v9 v10 v11 v12 v13 v14 v15 v16 v17 v18 v19 v20 v21 := by kernel_rfl
noncomputable def dgtext_t0_12 (G : Nat → ASt E → Option (List (TV E))) (v0 : Bool) (v1 v2 v3 v4 v5 v6 v7 v8 v9 v10 v11 v12 _v13 v14 v15 v16 v17 v18 v19 v20 v21 : Int) : Option (List (TV E)) :=
  bif (!((10 : Int) == (0 : Int))) then (bif (!((10 : Int) == (0 : Int))) then (bif ((IntKind.wrap .u64 (Int.tdiv v1 (10 : Int))) == (0 : Int)) then (bif v0 then (bif (decide ((0 : Int) ≤ (10 : Int)) && decide ((10 : Int) ≤ (20 : Int)) && decide ((20 : Int) ≤ (20 : Int))) then some [⟨.str, (List.map (fun y => UInt8.ofNat (Int.toNat y)) (List.take (Int.toNat 20 - Int.toNat 10) (List.drop (Int.toNat 10) ([v2, v3, v4, v5, v6, v7, v8, v9, v10, v11, (45 : Int), (IntKind.wrap .u8 (IntKind.wrap .u64 ((48 : Int) + (Int.tmod v1 (10 : Int))))), v14, v15, v16, v17, v18, v19, v20, v21] : List Int))))⟩] else none) else (bif (decide ((0 : Int) ≤ (11 : Int)) && decide ((11 : Int) ≤ (20 : Int)) && decide ((20 : Int) ≤ (20 : Int))) then some [⟨.str, (List.map (fun y => UInt8.ofNat (Int.toNat y)) (List.take (Int.toNat 20 - Int.toNat 11) (List.drop (Int.toNat 11) ([v2, v3, v4, v5, v6, v7, v8, v9, v10, v11, v12, (IntKind.wrap .u8 (IntKind.wrap .u64 ((48 : Int) + (Int.tmod v1 (10 : Int))))), v14, v15, v16, v17, v18, v19, v20, v21] : List Int))))⟩] else none)) else G 0 (dgtext_C0_11 v0 (IntKind.wrap .u64 (Int.tdiv v1 (10 : Int))) v2 v3 v4 v5 v6 v7 v8 v9 v10 v11 v12 (IntKind.wrap .u8 (IntKind.wrap .u64 ((48 : Int) + (Int.tmod v1 (10 : Int))))) v14 v15 v16 v17 v18 v19 v20 v21)) else none) else none
theorem dgtext_l0_12 (G : Nat → ASt E → Option (List (TV E))) (v0 : Bool) (v1 v2 v3 v4 v5 v6 v7 v8 v9 v10 v11 v12 v13 v14 v15 v16 v17 v18 v19 v20 v21 : Int) : runL dgtext_O dgtext_H G Tryd.f19 0 (dgtext_C0_12 v0 v1 v2 v3 v4 v5 v6 v7 v8 v9 v10 v11 v12 v13 v14 v15 v16 v17 v18 v19 v20 v21) = dgtext_t0_12 G v0 v1 v2 v3 v4 v5 v6 v7 v8 v9 v10 v11 v12 v13 v14 v15 v16 v17 v18 v19 v20 v21 := by kernel_rfl
noncomputable def dgtext_t0_13 (G : Nat → ASt E → Option (List (TV E))) (v0 : Bool) (v1 v2 v3 v4 v5 v6 v7 v8 v9 v10 v11 v12 v13 _v14 v15 v16 v17 v18 v19 v20 v21 : Int) : Option (List (TV E)) :=
  bif (!((10 : Int) == (0 : Int))) then (bif (!((10 : Int) == (0 : Int))) then (bif ((IntKind.wrap .u64 (Int.tdiv v1 (10 : Int))) == (0 : Int)) then (bif v0 then (bif (decide ((0 : Int) ≤ (11 : Int)) && decide ((11 : Int) ≤ (20 : Int)) && decide ((20 : Int) ≤ (20 : Int))) then some [⟨.str, (List.map (fun y => UInt8.ofNat (Int.toNat y)) (List.take (Int.toNat 20 - Int.toNat 11) (List.drop (Int.toNat 11) ([v2, v3, v4, v5, v6, v7, v8, v9, v10, v11, v12, (45 : Int), (IntKind.wrap .u8 (IntKind.wrap .u64 ((48 : Int) + (Int.tmod v1 (10 : Int))))), v15, v16, v17, v18, v19, v20, v21] : List Int))))⟩] else none) else (bif (decide ((0 : Int) ≤ (12 : Int)) && decide ((12 : Int) ≤ (20 : Int)) && decide ((20 : Int) ≤ (20 : Int))) then some [⟨.str, (List.map (fun y => UInt8.ofNat (Int.toNat y)) (List.take (Int.toNat 20 - Int.toNat 12) (List.drop (Int.toNat 12) ([v2, v3, v4, v5, v6, v7, v8, v9, v10, v11, v12, v13, (IntKind.wrap .u8 (IntKind.wrap .u64 ((48 : Int) + (Int.tmod v1 (10 : Int))))), v15, v16, v17, v18, v19, v20, v21] : List Int))))⟩] else none)) else G 0 (dgtext_C0_12 v0 (IntKind.wrap .u64 (Int.tdiv v1 (10 : Int))) v2 v3 v4 v5 v6 v7 v8 v9 v10 v11 v12 v13 (IntKind.wrap .u8 (IntKind.wrap .u64 ((48 : Int) + (Int.tmod v1 (10 : Int))))) v15 v16 v17 v18 v19 v20 v21)) else none) else none
theorem dgtext_l0_13 (G : Nat → ASt E → Option (List (TV E))) (v0 : Bool) (v1 v2 v3 v4 v5 v6 v7 v8 v9 v10 v11 v12 v13 v14 v15 v16 v17 v18 v19 v20 v21 : Int) : runL dgtext_O dgtext_H G Tryd.f19 0 (dgtext_C0_13 v0 v1 v2 v3 v4 v5 v6 v7 v8 v9 v10 v11 v12 v13 v14 v15 v16 v17 v18 v19 v20 v21) = dgtext_t0_13 G v0 v1 v2 v3 v4 v5 v6 v7 v8 v9 v10 v11 v12 v13 v14 v15 v16 v17 v18 v19 v20 v21 := by kernel_rfl
noncomputable def dgtext_t0_14 (G : Nat → ASt E → Option (List (TV E))) (v0 : Bool) (v1 v2 v3 v4 v5 v6 v7 v8 v9 v10 v11 v12 v13 v14 _v15 v16 v17 v18 v19 v20 v21 : Int) : Option (List (TV E)) :=
  bif (!((10 : Int) == (0 : Int))) then (bif (!((10 : Int) == (0 : Int))) then (bif ((IntKind.wrap .u64 (Int.tdiv v1 (10 : Int))) == (0 : Int)) then (bif v0 then (bif (decide ((0 : Int) ≤ (12 : Int)) && decide ((12 : Int) ≤ (20 : Int)) && decide ((20 : Int) ≤ (20 : Int))) then some [⟨.str, (List.map (fun y => UInt8.ofNat (Int.toNat y)) (List.take (Int.toNat 20 - Int.toNat 12) (List.drop (Int.toNat 12) ([v2, v3, v4, v5, v6, v7, v8, v9, v10, v11, v12, v13, (45 : Int), (IntKind.wrap .u8 (IntKind.wrap .u64 ((48 : Int) + (Int.tmod v1 (10 : Int))))), v16, v17, v18, v19, v20, v21] : List Int))))⟩] else none) else (bif (decide ((0 : Int) ≤ (13 : Int)) && decide ((13 : Int) ≤ (20 : Int)) && decide ((20 : Int) ≤ (20 : Int))) then some [⟨.str, (List.map (fun y => UInt8.ofNat (Int.toNat y)) (List.take (Int.toNat 20 - Int.toNat 13) (List.drop (Int.toNat 13) ([v2, v3, v4, v5, v6, v7, v8, v9, v10, v11, v12, v13, v14, (IntKind.wrap .u8 (IntKind.wrap .u64 ((48 : Int) + (Int.tmod v1 (10 : Int))))), v16, v17, v18, v19, v20, v21] : List Int))))⟩] else none)) else G 0 (dgtext_C0_13 v0 (IntKind.wrap .u64 (Int.tdiv v1 (10 : Int))) v2 v3 v4 v5 v6 v7 v8 v9 v10 v11 v12 v13 v14 (IntKind.wrap .u8 (IntKind.wrap .u64 ((48 : Int) + (Int.tmod v1 (10 : Int))))) v16 v17 v18 v19 v20 v21)) else none) else none
theorem dgtext_l0_14 (G : Nat → ASt E → Option (List (TV E))) (v0 : Bool) (v1 v2 v3 v4 v5 v6 v7 v8 v9 v10 v11 v12 v13 v14 v15 v16 v17 v18 v19 v20 v21 : Int) : runL dgtext_O dgtext_H G Tryd.f19 0 (dgtext_C0_14 v0 v1 v2 v3 v4 v5 v6 v7 v8 v9 v10 v11 v12 v13 v14 v15 v16 v17 v18 v19 v20 v21) = dgtext_t0_14 G v0 v1 v2 v3 v4 v5 v6 v7 v8 v9 v10 v11 v12 v13 v14 v15 v16 v17 v18 v19 v20 v21 := by kernel_rfl
noncomputable def dgtext_t0_15 (G : Nat → ASt E → Option (List (TV E))) (v0 : Bool) (v1 v2 v3 v4 v5 v6 v7 v8 v9 v10 v11 v12 v13 v14 v15 _v16 v17 v18 v19 v20 v21 : Int) : Option (List (TV E)) :=
  bif (!((10 : Int) == (0 : Int))) then (bif (!((10 : Int) == (0 : Int))) then (bif ((IntKind.wrap .u64 (Int.tdiv v1 (10 : Int))) == (0 : Int)) then (bif v0 then (bif (decide ((0 : Int) ≤ (13 : Int)) && decide ((13 : Int) ≤ (20 : Int)) && decide ((20 : Int) ≤ (20 : Int))) then some [⟨.str, (List.map (fun y => UInt8.ofNat (Int.toNat y)) (List.take (Int.toNat 20 - Int.toNat 13) (List.drop (Int.toNat 13) ([v2, v3, v4, v5, v6, v7, v8, v9, v10, v11, v12, v13, v14, (45 : Int), (IntKind.wrap .u8 (IntKind.wrap .u64 ((48 : Int) + (Int.tmod v1 (10 : Int))))), v17, v18, v19, v20, v21] : List Int))))⟩] else none) else (bif (decide ((0 : Int) ≤ (14 : Int)) && decide ((14 : Int) ≤ (20 : Int)) && decide ((20 : Int) ≤ (20 : Int))) then some [⟨.str, (List.map (fun y => UInt8.ofNat (Int.toNat y)) (List.take (Int.toNat 20 - Int.toNat 14) (List.drop (Int.toNat 14) ([v2, v3, v4, v5, v6, v7, v8, v9, v10, v11, v12, v13, v14, v15, (IntKind.wrap .u8 (IntKind.wrap .u64 ((48 : Int) + (Int.tmod v1 (10 : Int))))), v17, v18, v19, v20, v21] : List Int))))⟩] else none)) else G 0 (dgtext_C0_14 v0 (IntKind.wrap .u64 (Int.tdiv v1 (10 : Int))) v2 v3 v4 v5 v6 v7 v8 v9 v10 v11 v12 v13 v14 v15 (IntKind.wrap .u8 (IntKind.wrap .u64 ((48 : Int) + (Int.tmod v1 (10 : Int))))) v17 v18 v19 v20 v21)) else none) else none
theorem dgtext_l0_15 (G : Nat → ASt E → Option (List (TV E))) (v0 : Bool) (v1 v2 v3 v4 v5 v6 v7 v8 v9 v10 v11 v12 v13 v14 v15 v16 v17 v18 v19 v20 v21 : Int) : runL dgtext_O dgtext_H G Tryd.f19 0 (dgtext_C0_15 v0 v1 v2 v3 v4 v5 v6 v7 v8 v9 v10 v11 v12 v13 v14 v15 v16 v17 v18 v19 v20 v21) = dgtext_t0_15 G v0 v1 v2 v3 v4 v5 v6 v7 v8 v9 v10 v11 v12 v13 v14 v15 v16 v17 v18 v19 v20 v21 := by kernel_rfl
noncomputable def dgtext_t0_16 (G : Nat → ASt E → Option (List (TV E))) (v0 : Bool) (v1 v2 v3 v4 v5 v6 v7 v8 v9 v10 v11 v12 v13 v14 v15 v16 _v17 v18 v19 v20 v21 : Int) : Option (List (TV E)) :=
  bif (!((10 : Int) == (0 : Int))) then (bif (!((10 : Int) == (0 : Int))) then (bif ((IntKind.wrap .u64 (Int.tdiv v1 (10 : Int))) == (0 : Int)) then (bif v0 then (bif (decide ((0 : Int) ≤ (14 : Int)) && decide ((14 : Int) ≤ (20 : Int)) && decide ((20 : Int) ≤ (20 : Int))) then some [⟨.str, (List.map (fun y => UInt8.ofNat (Int.toNat y)) (List.take (Int.toNat 20 - Int.toNat 14) (List.drop (Int.toNat 14) ([v2, v3, v4, v5, v6, v7, v8, v9, v10, v11, v12, v13, v14, v15, (45 : Int), (IntKind.wrap .u8 (IntKind.wrap .u64 ((48 : Int) + (Int.tmod v1 (10 : Int))))), v18, v19, v20, v21] : List Int))))⟩] else none) else (bif (decide ((0 : Int) ≤ (15 : Int)) && decide ((15 : Int) ≤ (20 : Int)) && decide ((20 : Int) ≤ (20 : Int))) then some [⟨.str, (List.map (fun y => UInt8.ofNat (Int.toNat y)) (List.take (Int.toNat 20 - Int.toNat 15) (List.drop (Int.toNat 15) ([v2, v3, v4, v5, v6, v7, v8, v9, v10, v11, v12, v13, v14, v15, v16, (IntKind.wrap .u8 (IntKind.wrap .u64 ((48 : Int) + (Int.tmod v1 (10 : Int))))), v18, v19, v20, v21] : List Int))))⟩] else none)) else G 0 (dgtext_C0_15 v0 (IntKind.wrap .u64 (Int.tdiv v1 (10 : Int))) v2 v3 v4 v5 v6 v7 v8 v9 v10 v11 v12 v13 v14 v15 v16 (IntKind.wrap .u8 (IntKind.wrap .u64 ((48 : Int) + (Int.tmod v1 (10 : Int))))) v18 v19 v20 v21)) else none) else none
theorem dgtext_l0_16 (G : Nat → ASt E → Option (List (TV E))) (v0 : Bool) (v1 v2 v3 v4 v5 v6 v7 v8 v9 v10 v11 v12 v13 v14 v15 v16 v17 v18 v19 v20 v21 : Int) : runL dgtext_O dgtext_H G Tryd.f19 0 (dgtext_C0_16 v0 v1 v2 v3 v4 v5 v6 v7 v8 v9 v10 v11 v12 v13 v14 v15 v16 v17 v18 v19 v20 v21) = dgtext_t0_16 G v0 v1 v2 v3 v4 v5 v6 v7 v8 v9 v10 v11 v12 v13 v14 v15 v16 v17 v18 v19 v20 v21 := by kernel_rfl
noncomputable def dgtext_t0_17 (G : Nat → ASt E → Option (List (TV E))) (v0 : Bool) (v1 v2 v3 v4 v5 v6 v7 v8 v9 v10 v11 v12 v13 v14 v15 v16 v17 _v18 v19 v20 v21 : Int) : Option (List (TV E)) :=
  bif (!((10 : Int) == (0 : Int))) then (bif (!((10 : Int) == (0 : Int))) then (bif ((IntKind.wrap .u64 (Int.tdiv v1 (10 : Int))) == (0 : Int)) then (bif v0 then (bif (decide ((0 : Int) ≤ (15 : Int)) && decide ((15 : Int) ≤ (20 : Int)) && decide ((20 : Int) ≤ (20 : Int))) then some [⟨.str, (List.map (fun y => UInt8.ofNat (Int.toNat y)) (List.take (Int.toNat 20 - Int.toNat 15) (List.drop (Int.toNat 15) ([v2, v3, v4, v5, v6, v7, v8, v9, v10, v11, v12, v13, v14, v15, v16, (45 : Int), (IntKind.wrap .u8 (IntKind.wrap .u64 ((48 : Int) + (Int.tmod v1 (10 : Int))))), v19, v20, v21] : List Int))))⟩] else none) else (bif (decide ((0 : Int) ≤ (16 : Int)) && decide ((16 : Int) ≤ (20 : Int)) && decide ((20 : Int) ≤ (20 : Int))) then some [⟨.str, (List.map (fun y => UInt8.ofNat (Int.toNat y)) (List.take (Int.toNat 20 - Int.toNat 16) (List.drop (Int.toNat 16) ([v2, v3, v4, v5, v6, v7, v8, v9, v10, v11, v12, v13, v14, v15, v16, v17, (IntKind.wrap .u8 (IntKind.wrap .u64 ((48 : Int) + (Int.tmod v1 (10 : Int))))), v19, v20, v21] : List Int))))⟩] else none)) else G 0 (dgtext_C0_16 v0 (IntKind.wrap .u64 (Int.tdiv v1 (10 : Int))) v2 v3 v4 v5 v6 v7 v8 v9 v10 v11 v12 v13 v14 v15 v16 v17 (IntKind.wrap .u8 (IntKind.wrap .u64 ((48 : Int) + (Int.tmod v1 (10 : Int))))) v19 v20 v21)) else none) else none
theorem dgtext_l0_17 (G : Nat → ASt E → Option (List (TV E))) (v0 : Bool) (v1 v2 v3 v4 v5 v6 v7 v8 v9 v10 v11 v12 v13 v14 v15 v16 v17 v18 v19 v20 v21 : Int) : runL dgtext_O dgtext_H G Tryd.f19 0 (dgtext_C0_17 v0 v1 v2 v3 v4 v5 v6 v7 v8 v9 v10 v11 v12 v13 v14 v15 v16 v17 v18 v19 v20 v21) = dgtext_t0_17 G v0 v1 v2 v3 v4 v5 v6 v7 v8 v9 v10 v11 v12 v13 v14 v15 v16 v17 v18 v19 v20 v21 := by kernel_rfl
noncomputable def dgtext_t0_18 (G : Nat → ASt E → Option (List (TV E))) (v0 : Bool) (v1 v2 v3 v4 v5 v6 v7 v8 v9 v10 v11 v12 v13 v14 v15 v16 v17 v18 _v19 v20 v21 : Int) : Option (List (TV E)) :=
  bif (!((10 : Int) == (0 : Int))) then (bif (!((10 : Int) == (0 : Int))) then (bif ((IntKind.wrap .u64 (Int.tdiv v1 (10 : Int))) == (0 : Int)) then (bif v0 then (bif (decide ((0 : Int) ≤ (16 : Int)) && decide ((16 : Int) ≤ (20 : Int)) && decide ((20 : Int) ≤ (20 : Int))) then some [⟨.str, (List.map (fun y => UInt8.ofNat (Int.toNat y)) (List.take (Int.toNat 20 - Int.toNat 16) (List.drop (Int.toNat 16) ([v2, v3, v4, v5, v6, v7, v8, v9, v10, v11, v12, v13, v14, v15, v16, v17, (45 : Int), (IntKind.wrap .u8 (IntKind.wrap .u64 ((48 : Int) + (Int.tmod v1 (10 : Int))))), v20, v21] : List Int))))⟩] else none) else (bif (decide ((0 : Int) ≤ (17 : Int)) && decide ((17 : Int) ≤ (20 : Int)) && decide ((20 : Int) ≤ (20 : Int))) then some [⟨.str, (List.map (fun y => UInt8.ofNat (Int.toNat y)) (List.take (Int.toNat 20 - Int.toNat 17) (List.drop (Int.toNat 17) ([v2, v3, v4, v5, v6, v7, v8, v9, v10, v11, v12, v13, v14, v15, v16, v17, v18, (IntKind.wrap .u8 (IntKind.wrap .u64 ((48 : Int) + (Int.tmod v1 (10 : Int))))), v20, v21] : List Int))))⟩] else none)) else G 0 (dgtext_C0_17 v0 (IntKind.wrap .u64 (Int.tdiv v1 (10 : Int))) v2 v3 v4 v5 v6 v7 v8 v9 v10 v11 v12 v13 v14 v15 v16 v17 v18 (IntKind.wrap .u8 (IntKind.wrap .u64 ((48 : Int) + (Int.tmod v1 (10 : Int))))) v20 v21)) else none) else none
theorem dgtext_l0_18 (G : Nat → ASt E → Option (List (TV E))) (v0 : Bool) (v1 v2 v3 v4 v5 v6 v7 v8 v9 v10 v11 v12 v13 v14 v15 v16 v17 v18 v19 v20 v21 : Int) : runL dgtext_O dgtext_H G Tryd.f19 0 (dgtext_C0_18 v0 v1 v2 v3 v4 v5 v6 v7 v8 v9 v10 v11 v12 v13 v14 v15 v16 v17 v18 v19 v20 v21) = dgtext_t0_18 G v0 v1 v2 v3 v4 v5 v6 v7 v8 v9 v10 v11 v12 v13 v14 v15 v16 v17 v18 v19 v20 v21 := by kernel_rfl
noncomputable def dgtext_t0_19 (G : Nat → ASt E → Option (List (TV E))) (v0 : Bool) (v1 v2 v3 v4 v5 v6 v7 v8 v9 v10 v11 v12 v13 v14 v15 v16 v17 v18 v19 _v20 v21 : Int) : Option (List (TV E)) :=
  bif (!((10 : Int) == (0 : Int))) then (bif (!((10 : Int) == (0 : Int))) then (bif ((IntKind.wrap .u64 (Int.tdiv v1 (10 : Int))) == (0 : Int)) then (bif v0 then (bif (decide ((0 : Int) ≤ (17 : Int)) && decide ((17 : Int) ≤ (20 : Int)) && decide ((20 : Int) ≤ (20 : Int))) then some [⟨.str, (List.map (fun y => UInt8.ofNat (Int.toNat y)) (List.take (Int.toNat 20 - Int.toNat 17) (List.drop (Int.toNat 17) ([v2, v3, v4, v5, v6, v7, v8, v9, v10, v11, v12, v13, v14, v15, v16, v17, v18, (45 : Int), (IntKind.wrap .u8 (IntKind.wrap .u64 ((48 : Int) + (Int.tmod v1 (10 : Int))))), v21] : List Int))))⟩] else none) else (bif (decide ((0 : Int) ≤ (18 : Int)) && decide ((18 : Int) ≤ (20 : Int)) && decide ((20 : Int) ≤ (20 : Int))) then some [⟨.str, (List.map (fun y => UInt8.ofNat (Int.toNat y)) (List.take (Int.toNat 20 - Int.toNat 18) (List.drop (Int.toNat 18) ([v2, v3, v4, v5, v6, v7, v8, v9, v10, v11, v12, v13, v14, v15, v16, v17, v18, v19, (IntKind.wrap .u8 (IntKind.wrap .u64 ((48 : Int) + (Int.tmod v1 (10 : Int))))), v21] : List Int))))⟩] else none)) else G 0 (dgtext_C0_18 v0 (IntKind.wrap .u64 (Int.tdiv v1 (10 : Int))) v2 v3 v4 v5 v6 v7 v8 v9 v10 v11 v12 v13 v14 v15 v16 v17 v18 v19 (IntKind.wrap .u8 (IntKind.wrap .u64 ((48 : Int) + (Int.tmod v1 (10 : Int))))) v21)) else none) else none
theorem dgtext_l0_19 (G : Nat → ASt E → Option (List (TV E))) (v0 : Bool) (v1 v2 v3 v4 v5 v6 v7 v8 v9 v10 v11 v12 v13 v14 v15 v16 v17 v18 v19 v20 v21 : Int) : runL dgtext_O dgtext_H G Tryd.f19 0 (dgtext_C0_19 v0 v1 v2 v3 v4 v5 v6 v7 v8 v9 v10 v11 v12 v13 v14 v15 v16 v17 v18 v19 v20 v21) = dgtext_t0_19 G v0 v1 v2 v3 v4 v5 v6 v7 v8 v9 v10 v11 v12 v13 v14 v15 v16 v17 v18 v19 v20 v21 := by kernel_rfl
noncomputable def dgtext_t0_2 (G : Nat → ASt E → Option (List (TV E))) (v0 : Bool) (v1 v2 _v3 v4 v5 v6 v7 v8 v9 v10 v11 v12 v13 v14 v15 v16 v17 v18 v19 v20 v21 : Int) : Option (List (TV E)) :=
  bif (!((10 : Int) == (0 : Int))) then (bif (!((10 : Int) == (0 : Int))) then (bif ((IntKind.wrap .u64 (Int.tdiv v1 (10 : Int))) == (0 : Int)) then (bif v0 then (bif (decide ((0 : Int) ≤ (0 : Int)) && decide ((0 : Int) ≤ (20 : Int)) && decide ((20 : Int) ≤ (20 : Int))) then some [⟨.str, (List.map (fun y => UInt8.ofNat (Int.toNat y)) (List.take (Int.toNat 20 - Int.toNat 0) (List.drop (Int.toNat 0) ([(45 : Int), (IntKind.wrap .u8 (IntKind.wrap .u64 ((48 : Int) + (Int.tmod v1 (10 : Int))))), v4, v5, v6, v7, v8, v9, v10, v11, v12, v13, v14, v15, v16, v17, v18, v19, v20, v21] : List Int))))⟩] else none) else (bif (decide ((0 : Int) ≤ (1 : Int)) && decide ((1 : Int) ≤ (20 : Int)) && decide ((20 : Int) ≤ (20 : Int))) then some [⟨.str, (List.map (fun y => UInt8.ofNat (Int.toNat y)) (List.take (Int.toNat 20 - Int.toNat 1) (List.drop (Int.toNat 1) ([v2, (IntKind.wrap .u8 (IntKind.wrap .u64 ((48 : Int) + (Int.tmod v1 (10 : Int))))), v4, v5, v6, v7, v8, v9, v10, v11, v12, v13, v14, v15, v16, v17, v18, v19, v20, v21] : List Int))))⟩] else none)) else G 0 (dgtext_C0_1 v0 (IntKind.wrap .u64 (Int.tdiv v1 (10 : Int))) v2 (IntKind.wrap .u8 (IntKind.wrap .u64 ((48 : Int) + (Int.tmod v1 (10 : Int))))) v4 v5 v6 v7 v8 v9 v10 v11 v12 v13 v14 v15 v16 v17 v18 v19 v20 v21)) else none) else none
theorem dgtext_l0_2 (G : Nat → ASt E → Option (List (TV E))) (v0 : Bool) (v1 v2 v3 v4 v5 v6 v7 v8 v9 v10 v11 v12 v13 v14 v15 v16 v17 v18 v19 v20 v21 : Int) : runL dgtext_O dgtext_H G Tryd.f19 0 (dgtext_C0_2 v0 v1 v2 v3 v4 v5 v6 v7 v8 v9 v10 v11 v12 v13 v14 v15 v16 v17 v18 v19 v20 v21) = dgtext_t0_2 G v0 v1 v2 v3 v4 v5 v6 v7 v8 v9 v10 v11 v12 v13 v14 v15 v16 v17 v18 v19 v20 v21 := by kernel_rfl
noncomputable def dgtext_t0_20 (G : Nat → ASt E → Option (List (TV E))) (v0 : Bool) (v1 v2 v3 v4 v5 v6 v7 v8 v9 v10 v11 v12 v13 v14 v15 v16 v17 v18 v19 v20 _v21 : Int) : Option (List (TV E)) :=
  bif (!((10 : Int) == (0 : Int))) then (bif (!((10 : Int) == (0 : Int))) then (bif ((IntKind.wrap .u64 (Int.tdiv v1 (10 : Int))) == (0 : Int)) then (bif v0 then (bif (decide ((0 : Int) ≤ (18 : Int)) && decide ((18 : Int) ≤ (20 : Int)) && decide ((20 : Int) ≤ (20 : Int))) then some [⟨.str, (List.map (fun y => UInt8.ofNat (Int.toNat y)) (List.take (Int.toNat 20 - Int.toNat 18) (List.drop (Int.toNat 18) ([v2, v3, v4, v5, v6, v7, v8, v9, v10, v11, v12, v13, v14, v15, v16, v17, v18, v19, (45 : Int), (IntKind.wrap .u8 (IntKind.wrap .u64 ((48 : Int) + (Int.tmod v1 (10 : Int)))))] : List Int))))⟩] else none) else (bif (decide ((0 : Int) ≤ (19 : Int)) && decide ((19 : Int) ≤ (20 : Int)) && decide ((20 : Int) ≤ (20 : Int))) then some [⟨.str, (List.map (fun y => UInt8.ofNat (Int.toNat y)) (List.take (Int.toNat 20 - Int.toNat 19) (List.drop (Int.toNat 19) ([v2, v3, v4, v5, v6, v7, v8, v9, v10, v11, v12, v13, v14, v15, v16, v17, v18, v19, v20, (IntKind.wrap .u8 (IntKind.wrap .u64 ((48 : Int) + (Int.tmod v1 (10 : Int)))))] : List Int))))⟩] else none)) else G 0 (dgtext_C0_19 v0 (IntKind.wrap .u64 (Int.tdiv v1 (10 : Int))) v2 v3 v4 v5 v6 v7 v8 v9 v10 v11 v12 v13 v14 v15 v16 v17 v18 v19 v20 (IntKind.wrap .u8 (IntKind.wrap .u64 ((48 : Int) + (Int.tmod v1 (10 : Int))))))) else none) else none
theorem dgtext_l0_20 (G : Nat → ASt E → Option (List (TV E))) (v0 : Bool) (v1 v2 v3 v4 v5 v6 v7 v8 v9 v10 v11 v12 v13 v14 v15 v16 v17 v18 v19 v20 v21 : Int) : runL dgtext_O dgtext_H G Tryd.f19 0 (dgtext_C0_20 v0 v1 v2 v3 v4 v5 v6 v7 v8 v9 v10 v11 v12 v13 v14 v15 v16 v17 v18 v19 v20 v21) = dgtext_t0_20 G v0 v1 v2 v3 v4 v5 v6 v7 v8 v9 v10 v11 v12 v13 v14 v15 v16 v17 v18 v19 v20 v21 := by kernel_rfl
noncomputable def dgtext_t0_3 (G : Nat → ASt E → Option (List (TV E))) (v0 : Bool) (v1 v2 v3 _v4 v5 v6 v7 v8 v9 v10 v11 v12 v13 v14 v15 v16 v17 v18 v19 v20 v21 : Int) : Option (List (TV E)) :=
  bif (!((10 : Int) == (0 : Int))) then (bif (!((10 : Int) == (0 : Int))) then (bif ((IntKind.wrap .u64 (Int.tdiv v1 (10 : Int))) == (0 : Int)) then (bif v0 then (bif (decide ((0 : Int) ≤ (1 : Int)) && decide ((1 : Int) ≤ (20 : Int)) && decide ((20 : Int) ≤ (20 : Int))) then some [⟨.str, (List.map (fun y => UInt8.ofNat (Int.toNat y)) (List.take (Int.toNat 20 - Int.toNat 1) (List.drop (Int.toNat 1) ([v2, (45 : Int), (IntKind.wrap .u8 (IntKind.wrap .u64 ((48 : Int) + (Int.tmod v1 (10 : Int))))), v5, v6, v7, v8, v9, v10, v11, v12, v13, v14, v15, v16, v17, v18, v19, v20, v21] : List Int))))⟩] else none) else (bif (decide ((0 : Int) ≤ (2 : Int)) && decide ((2 : Int) ≤ (20 : Int)) && decide ((20 : Int) ≤ (20 : Int))) then some [⟨.str, (List.map (fun y => UInt8.ofNat (Int.toNat y)) (List.take (Int.toNat 20 - Int.toNat 2) (List.drop (Int.toNat 2) ([v2, v3, (IntKind.wrap .u8 (IntKind.wrap .u64 ((48 : Int) + (Int.tmod v1 (10 : Int))))), v5, v6, v7, v8, v9, v10, v11, v12, v13, v14, v15, v16, v17, v18, v19, v20, v21] : List Int))))⟩] else none)) else G 0 (dgtext_C0_2 v0 (IntKind.wrap .u64 (Int.tdiv v1 (10 : Int))) v2 v3 (IntKind.wrap .u8 (IntKind.wrap .u64 ((48 : Int) + (Int.tmod v1 (10 : Int))))) v5 v6 v7 v8 v9 v10 v11 v12 v13 v14 v15 v16 v17 v18 v19 v20 v21)) else none) else none
theorem dgtext_l0_3 (G : Nat → ASt E → Option (List (TV E))) (v0 : Bool) (v1 v2 v3 v4 v5 v6 v7 v8 v9 v10 v11 v12 v13 v14 v15 v16 v17 v18 v19 v20 v21 : Int) : runL dgtext_O dgtext_H G Tryd.f19 0 (dgtext_C0_3 v0 v1 v2 v3 v4 v5 v6 v7 v8 v9 v10 v11 v12 v13 v14 v15 v16 v17 v18 v19 v20 v21) = dgtext_t0_3 G v0 v1 v2 v3 v4 v5 v6 v7 v8 v9 v10 v11 v12 v13 v14 v15 v16 v17 v18 v19 v20 v21 := by kernel_rfl
noncomputable def dgtext_t0_4 (G : Nat → ASt E → Option (List (TV E))) (v0 : Bool) (v1 v2 v3 v4 _v5 v6 v7 v8 v9 v10 v11 v12 v13 v14 v15 v16 v17 v18 v19 v20 v21 : Int) : Option (List (TV E)) :=
  bif (!((10 : Int) == (0 : Int))) then (bif (!((10 : Int) == (0 : Int))) then (bif ((IntKind.wrap .u64 (Int.tdiv v1 (10 : Int))) == (0 : Int)) then (bif v0 then (bif (decide ((0 : Int) ≤ (2 : Int)) && decide ((2 : Int) ≤ (20 : Int)) && decide ((20 : Int) ≤ (20 : Int))) then some [⟨.str, (List.map (fun y => UInt8.ofNat (Int.toNat y)) (List.take (Int.toNat 20 - Int.toNat 2) (List.drop (Int.toNat 2) ([v2, v3, (45 : Int), (IntKind.wrap .u8 (IntKind.wrap .u64 ((48 : Int) + (Int.tmod v1 (10 : Int))))), v6, v7, v8, v9, v10, v11, v12, v13, v14, v15, v16, v17, v18, v19, v20, v21] : List Int))))⟩] else none) else (bif (decide ((0 : Int) ≤ (3 : Int)) && decide ((3 : Int) ≤ (20 : Int)) && decide ((20 : Int) ≤ (20 : Int))) then some [⟨.str, (List.map (fun y => UInt8.ofNat (Int.toNat y)) (List.take (Int.toNat 20 - Int.toNat 3) (List.drop (Int.toNat 3) ([v2, v3, v4, (IntKind.wrap .u8 (IntKind.wrap .u64 ((48 : Int) + (Int.tmod v1 (10 : Int))))), v6, v7, v8, v9, v10, v11, v12, v13, v14, v15, v16, v17, v18, v19, v20, v21] : List Int))))⟩] else none)) else G 0 (dgtext_C0_3 v0 (IntKind.wrap .u64 (Int.tdiv v1 (10 : Int))) v2 v3 v4 (IntKind.wrap .u8 (IntKind.wrap .u64 ((48 : Int) + (Int.tmod v1 (10 : Int))))) v6 v7 v8 v9 v10 v11 v12 v13 v14 v15 v16 v17 v18 v19 v20 v21)) else none) else none
theorem dgtext_l0_4 (G : Nat → ASt E → Option (List (TV E))) (v0 : Bool) (v1 v2 v3 v4 v5 v6 v7 v8 v9 v10 v11 v12 v13 v14 v15 v16 v17 v18 v19 v20 v21 : Int) : runL dgtext_O dgtext_H G Tryd.f19 0 (dgtext_C0_4 v0 v1 v2 v3 v4 v5 v6 v7 v8 v9 v10 v11 v12 v13 v14 v15 v16 v17 v18 v19 v20 v21) = dgtext_t0_4 G v0 v1 v2 v3 v4 v5 v6 v7 v8 v9 v10 v11 v12 v13 v14 v15 v16 v17 v18 v19 v20 v21 := by kernel_rfl
noncomputable def dgtext_t0_5 (G : Nat → ASt E → Option (List (TV E))) (v0 : Bool) (v1 v2 v3 v4 v5 _v6 v7 v8 v9 v10 v11 v12 v13 v14 v15 v16 v17 v18 v19 v20 v21 : Int) : Option (List (TV E)) :=
  bif (!((10 : Int) == (0 : Int))) then (bif (!((10 : Int) == (0 : Int))) then (bif ((IntKind.wrap .u64 (Int.tdiv v1 (10 : Int))) == (0 : Int)) then (bif v0 then (bif (decide ((0 : Int) ≤ (3 : Int)) && decide ((3 : Int) ≤ (20 : Int)) && decide ((20 : Int) ≤ (20 : Int))) then some [⟨.str, (List.map (fun y => UInt8.ofNat (Int.toNat y)) (List.take (Int.toNat 20 - Int.toNat 3) (List.drop (Int.toNat 3) ([v2, v3, v4, (45 : Int), (IntKind.wrap .u8 (IntKind.wrap .u64 ((48 : Int) + (Int.tmod v1 (10 : Int))))), v7, v8, v9, v10, v11, v12, v13, v14, v15, v16, v17, v18, v19, v20, v21] : List Int))))⟩] else none) else (bif (decide ((0 : Int) ≤ (4 : Int)) && decide ((4 : Int) ≤ (20 : Int)) && decide ((20 : Int) ≤ (20 : Int))) then some [⟨.str, (List.map (fun y => UInt8.ofNat (Int.toNat y)) (List.take (Int.toNat 20 - Int.toNat 4) (List.drop (Int.toNat 4) ([v2, v3, v4, v5, (IntKind.wrap .u8 (IntKind.wrap .u64 ((48 : Int) + (Int.tmod v1 (10 : Int))))), v7, v8, v9, v10, v11, v12, v13, v14, v15, v16, v17, v18, v19, v20, v21] : List Int))))⟩] else none)) else G 0 (dgtext_C0_4 v0 (IntKind.wrap .u64 (Int.tdiv v1 (10 : Int))) v2 v3 v4 v5 (IntKind.wrap .u8 (IntKind.wrap .u64 ((48 : Int) + (Int.tmod v1 (10 : Int))))) v7 v8 v9 v10 v11 v12 v13 v14 v15 v16 v17 v18 v19 v20 v21)) else none) else none
theorem dgtext_l0_5 (G : Nat → ASt E → Option (List (TV E))) (v0 : Bool) (v1 v2 v3 v4 v5 v6 v7 v8 v9 v10 v11 v12 v13 v14 v15 v16 v17 v18 v19 v20 v21 : Int) : runL dgtext_O dgtext_H G Tryd.f19 0 (dgtext_C0_5 v0 v1 v2 v3 v4 v5 v6 v7 v8 v9 v10 v11 v12 v13 v14 v15 v16 v17 v18 v19 v20 v21) = dgtext_t0_5 G v0 v1 v2 v3 v4 v5 v6 v7 v8 v9 v10 v11 v12 v13 v14 v15 v16 v17 v18 v19 v20 v21 := by kernel_rfl
noncomputable def dgtext_t0_6 (G : Nat → ASt E → Option (List (TV E))) (v0 : Bool) (v1 v2 v3 v4 v5 v6 _v7 v8 v9 v10 v11 v12 v13 v14 v15 v16 v17 v18 v19 v20 v21 : Int) : Option (List (TV E)) :=
  bif (!((10 : Int) == (0 : Int))) then (bif (!((10 : Int) == (0 : Int))) then (bif ((IntKind.wrap .u64 (Int.tdiv v1 (10 : Int))) == (0 : Int)) then (bif v0 then (bif (decide ((0 : Int) ≤ (4 : Int)) && decide ((4 : Int) ≤ (20 : Int)) && decide ((20 : Int) ≤ (20 : Int))) then some [⟨.str, (List.map (fun y => UInt8.ofNat (Int.toNat y)) (List.take (Int.toNat 20 - Int.toNat 4) (List.drop (Int.toNat 4) ([v2, v3, v4, v5, (45 : Int), (IntKind.wrap .u8 (IntKind.wrap .u64 ((48 : Int) + (Int.tmod v1 (10 : Int))))), v8, v9, v10, v11, v12, v13, v14, v15, v16, v17, v18, v19, v20, v21] : List Int))))⟩] else none) else (bif (decide ((0 : Int) ≤ (5 : Int)) && decide ((5 : Int) ≤ (20 : Int)) && decide ((20 : Int) ≤ (20 : Int))) then some [⟨.str, (List.map (fun y => UInt8.ofNat (Int.toNat y)) (List.take (Int.toNat 20 - Int.toNat 5) (List.drop (Int.toNat 5) ([v2, v3, v4, v5, v6, (IntKind.wrap .u8 (IntKind.wrap .u64 ((48 : Int) + (Int.tmod v1 (10 : Int))))), v8, v9, v10, v11, v12, v13, v14, v15, v16, v17, v18, v19, v20, v21] : List Int))))⟩] else none)) else G 0 (dgtext_C0_5 v0 (IntKind.wrap .u64 (Int.tdiv v1 (10 : Int))) v2 v3 v4 v5 v6 (IntKind.wrap .u8 (IntKind.wrap .u64 ((48 : Int) + (Int.tmod v1 (10 : Int))))) v8 v9 v10 v11 v12 v13 v14 v15 v16 v17 v18 v19 v20 v21)) else none) else none
theorem dgtext_l0_6 (G : Nat → ASt E → Option (List (TV E))) (v0 : Bool) (v1 v2 v3 v4 v5 v6 v7 v8 v9 v10 v11 v12 v13 v14 v15 v16 v17 v18 v19 v20 v21 : Int) : runL dgtext_O dgtext_H G Tryd.f19 0 (dgtext_C0_6 v0 v1 v2 v3 v4 v5 v6 v7 v8 v9 v10 v11 v12 v13 v14 v15 v16 v17 v18 v19 v20 v21) = dgtext_t0_6 G v0 v1 v2 v3 v4 v5 v6 v7 v8 v9 v10 v11 v12 v13 v14 v15 v16 v17 v18 v19 v20 v21 := by kernel_rfl
noncomputable def dgtext_t0_7 (G : Nat → ASt E → Option (List (TV E))) (v0 : Bool) (v1 v2 v3 v4 v5 v6 v7 _v8 v9 v10 v11 v12 v13 v14 v15 v16 v17 v18 v19 v20 v21 : Int) : Option (List (TV E)) :=
  bif (!((10 : Int) == (0 : Int))) then (bif (!((10 : Int) == (0 : Int))) then (bif ((IntKind.wrap .u64 (Int.tdiv v1 (10 : Int))) == (0 : Int)) then (bif v0 then (bif (decide ((0 : Int) ≤ (5 : Int)) && decide ((5 : Int) ≤ (20 : Int)) && decide ((20 : Int) ≤ (20 : Int))) then some [⟨.str, (List.map (fun y => UInt8.ofNat (Int.toNat y)) (List.take (Int.toNat 20 - Int.toNat 5) (List.drop (Int.toNat 5) ([v2, v3, v4, v5, v6, (45 : Int), (IntKind.wrap .u8 (IntKind.wrap .u64 ((48 : Int) + (Int.tmod v1 (10 : Int))))), v9, v10, v11, v12, v13, v14, v15, v16, v17, v18, v19, v20, v21] : List Int))))⟩] else none) else (bif (decide ((0 : Int) ≤ (6 : Int)) && decide ((6 : Int) ≤ (20 : Int)) && decide ((20 : Int) ≤ (20 : Int))) then some [⟨.str, (List.map (fun y => UInt8.ofNat (Int.toNat y)) (List.take (Int.toNat 20 - Int.toNat 6) (List.drop (Int.toNat 6) ([v2, v3, v4, v5, v6, v7, (IntKind.wrap .u8 (IntKind.wrap .u64 ((48 : Int) + (Int.tmod v1 (10 : Int))))), v9, v10, v11, v12, v13, v14, v15, v16, v17, v18, v19, v20, v21] : List Int))))⟩] else none)) else G 0 (dgtext_C0_6 v0 (IntKind.wrap .u64 (Int.tdiv v1 (10 : Int))) v2 v3 v4 v5 v6 v7 (IntKind.wrap .u8 (IntKind.wrap .u64 ((48 : Int) + (Int.tmod v1 (10 : Int))))) v9 v10 v11 v12 v13 v14 v15 v16 v17 v18 v19 v20 v21)) else none) else none
theorem dgtext_l0_7 (G : Nat → ASt E → Option (List (TV E))) (v0 : Bool) (v1 v2 v3 v4 v5 v6 v7 v8 v9 v10 v11 v12 v13 v14 v15 v16 v17 v18 v19 v20 v21 : Int) : runL dgtext_O dgtext_H G Tryd.f19 0 (dgtext_C0_7 v0 v1 v2 v3 v4 v5 v6 v7 v8 v9 v10 v11 v12 v13 v14 v15 v16 v17 v18 v19 v20 v21) = dgtext_t0_7 G v0 v1 v2 v3 v4 v5 v6 v7 v8 v9 v10 v11 v12 v13 v14 v15 v16 v17 v18 v19 v20 v21 := by kernel_rfl
noncomputable def dgtext_t0_8 (G : Nat → ASt E → Option (List (TV E))) (v0 : Bool) (v1 v2 v3 v4 v5 v6 v7 v8 _v9 v10 v11 v12 v13 v14 v15 v16 v17 v18 v19 v20 v21 : Int) : Option (List (TV E)) :=
  bif (!((10 : Int) == (0 : Int))) then (bif (!((10 : Int) == (0 : Int))) then (bif ((IntKind.wrap .u64 (Int.tdiv v1 (10 : Int))) == (0 : Int)) then (bif v0 then (bif (decide ((0 : Int) ≤ (6 : Int)) && decide ((6 : Int) ≤ (20 : Int)) && decide ((20 : Int) ≤ (20 : Int))) then some [⟨.str, (List.map (fun y => UInt8.ofNat (Int.toNat y)) (List.take (Int.toNat 20 - Int.toNat 6) (List.drop (Int.toNat 6) ([v2, v3, v4, v5, v6, v7, (45 : Int), (IntKind.wrap .u8 (IntKind.wrap .u64 ((48 : Int) + (Int.tmod v1 (10 : Int))))), v10, v11, v12, v13, v14, v15, v16, v17, v18, v19, v20, v21] : List Int))))⟩] else none) else (bif (decide ((0 : Int) ≤ (7 : Int)) && decide ((7 : Int) ≤ (20 : Int)) && decide ((20 : Int) ≤ (20 : Int))) then some [⟨.str, (List.map (fun y => UInt8.ofNat (Int.toNat y)) (List.take (Int.toNat 20 - Int.toNat 7) (List.drop (Int.toNat 7) ([v2, v3, v4, v5, v6, v7, v8, (IntKind.wrap .u8 (IntKind.wrap .u64 ((48 : Int) + (Int.tmod v1 (10 : Int))))), v10, v11, v12, v13, v14, v15, v16, v17, v18, v19, v20, v21] : List Int))))⟩] else none)) else G 0 (dgtext_C0_7 v0 (IntKind.wrap .u64 (Int.tdiv v1 (10 : Int))) v2 v3 v4 v5 v6 v7 v8 (IntKind.wrap .u8 (IntKind.wrap .u64 ((48 : Int) + (Int.tmod v1 (10 : Int))))) v10 v11 v12 v13 v14 v15 v16 v17 v18 v19 v20 v21)) else none) else none
theorem dgtext_l0_8 (G : Nat → ASt E → Option (List (TV E))) (v0 : Bool) (v1 v2 v3 v4 v5 v6 v7 v8 v9 v10 v11 v12 v13 v14 v15 v16 v17 v18 v19 v20 v21 : Int) : runL dgtext_O dgtext_H G Tryd.f19 0 (dgtext_C0_8 v0 v1 v2 v3 v4 v5 v6 v7 v8 v9 v10 v11 v12 v13 v14 v15 v16 v17 v18 v19 v20 v21) = dgtext_t0_8 G v0 v1 v2 v3 v4 v5 v6 v7 v8 v9 v10 v11 v12 v13 v14 v15 v16 v17 v18 v19 v20 v21 := by kernel_rfl
noncomputable def dgtext_t0_9 (G : Nat → ASt E → Option (List (TV E))) (v0 : Bool) (v1 v2 v3 v4 v5 v6 v7 v8 v9 _v10 v11 v12 v13 v14 v15 v16 v17 v18 v19 v20 v21 : Int) : Option (List (TV E)) :=
  bif (!((10 : Int) == (0 : Int))) then (bif (!((10 : Int) == (0 : Int))) then (bif ((IntKind.wrap .u64 (Int.tdiv v1 (10 : Int))) == (0 : Int)) then (bif v0 then (bif (decide ((0 : Int) ≤ (7 : Int)) && decide ((7 : Int) ≤ (20 : Int)) && decide ((20 : Int) ≤ (20 : Int))) then some [⟨.str, (List.map (fun y => UInt8.ofNat (Int.toNat y)) (List.take (Int.toNat 20 - Int.toNat 7) (List.drop (Int.toNat 7) ([v2, v3, v4, v5, v6, v7, v8, (45 : Int), (IntKind.wrap .u8 (IntKind.wrap .u64 ((48 : Int) + (Int.tmod v1 (10 : Int))))), v11, v12, v13, v14, v15, v16, v17, v18, v19, v20, v21] : List Int))))⟩] else none) else (bif (decide ((0 : Int) ≤ (8 : Int)) && decide ((8 : Int) ≤ (20 : Int)) && decide ((20 : Int) ≤ (20 : Int))) then some [⟨.str, (List.map (fun y => UInt8.ofNat (Int.toNat y)) (List.take (Int.toNat 20 - Int.toNat 8) (List.drop (Int.toNat 8) ([v2, v3, v4, v5, v6, v7, v8, v9, (IntKind.wrap .u8 (IntKind.wrap .u64 ((48 : Int) + (Int.tmod v1 (10 : Int))))), v11, v12, v13, v14, v15, v16, v17, v18, v19, v20, v21] : List Int))))⟩] else none)) else G 0 (dgtext_C0_8 v0 (IntKind.wrap .u64 (Int.tdiv v1 (10 : Int))) v2 v3 v4 v5 v6 v7 v8 v9 (IntKind.wrap .u8 (IntKind.wrap .u64 ((48 : Int) + (Int.tmod v1 (10 : Int))))) v11 v12 v13 v14 v15 v16 v17 v18 v19 v20 v21)) else none) else none
theorem dgtext_l0_9 (G : Nat → ASt E → Option (List (TV E))) (v0 : Bool) (v1 v2 v3 v4 v5 v6 v7 v8 v9 v10 v11 v12 v13 v14 v15 v16 v17 v18 v19 v20 v21 : Int) : runL dgtext_O dgtext_H G Tryd.f19 0 (dgtext_C0_9 v0 v1 v2 v3 v4 v5 v6 v7 v8 v9 v10 v11 v12 v13 v14 v15 v16 v17 v18 v19 v20 v21) = dgtext_t0_9 G v0 v1 v2 v3 v4 v5 v6 v7 v8 v9 v10 v11 v12 v13 v14 v15 v16 v17 v18 v19 v20 v21 := by kernel_rfl
theorem dgtext_f : Tryd.prog.funcs[19]? = some Tryd.f19 := by kernel_rfl
theorem dgtext_n : (Tryd.f19.name == "runtime.NumGoroutine") = false := by kernel_rfl
theorem dgtext_b : Tryd.f19.body.isNone = false := by kernel_rfl
theorem dgtext_hO : OracleOk E dgtext_O := orac_ok .nil .nil .nil .nil
theorem dgtext_s0_1 {res : List (TV E)} {v0 : Bool} {v1 v2 v3 v4 v5 v6 v7 v8 v9 v10 v11 v12 v13 v14 v15 v16 v17 v18 v19 v20 v21 : Int} (h : dgtext_t0_1 (Gr E Tryd.f19 res) v0 v1 v2 v3 v4 v5 v6 v7 v8 v9 v10 v11 v12 v13 v14 v15 v16 v17 v18 v19 v20 v21 = some res) : Ev E Tryd.f19 res 0 (dgtext_C0_1 v0 v1 v2 v3 v4 v5 v6 v7 v8 v9 v10 v11 v12 v13 v14 v15 v16 v17 v18 v19 v20 v21) := Ev.step dgtext_hO mix ((dgtext_l0_1 _ v0 v1 v2 v3 v4 v5 v6 v7 v8 v9 v10 v11 v12 v13 v14 v15 v16 v17 v18 v19 v20 v21).trans h)
theorem dgtext_s0_10 {res : List (TV E)} {v0 : Bool} {v1 v2 v3 v4 v5 v6 v7 v8 v9 v10 v11 v12 v13 v14 v15 v16 v17 v18 v19 v20 v21 : Int} (h : dgtext_t0_10 (Gr E Tryd.f19 res) v0 v1 v2 v3 v4 v5 v6 v7 v8 v9 v10 v11 v12 v13 v14 v15 v16 v17 v18 v19 v20 v21 = some res) : Ev E Tryd.f19 res 0 (dgtext_C0_10 v0 v1 v2 v3 v4 v5 v6 v7 v8 v9 v10 v11 v12 v13 v14 v15 v16 v17 v18 v19 v20 v21) := Ev.step dgtext_hO mix ((dgtext_l0_10 _ v0 v1 v2 v3 v4 v5 v6 v7 v8 v9 v10 v11 v12 v13 v14 v15 v16 v17 v18 v19 v20 v21).trans h)
theorem dgtext_s0_11 {res : List (TV E)} {v0 : Bool} {v1 v2 v3 v4 v5 v6 v7 v8 v9 v10 v11 v12 v13 v14 v15 v16 v17 v18 v19 v20 v21 : Int} (h : dgtext_t0_11 (Gr E Tryd.f19 res) v0 v1 v2 v3 v4 v5 v6 v7 v8 v9 v10 v11 v12 v13 v14 v15 v16 v17 v18 v19 v20 v21 = some res) : Ev E Tryd.f19 res 0 (dgtext_C0_11 v0 v1 v2 v3 v4 v5 v6 v7 v8 v9 v10 v11 v12 v13 v14 v15 v16 v17 v18 v19 v20 v21) := Ev.step dgtext_hO mix ((dgtext_l0_11 _ v0 v1 v2 v3 v4 v5 v6 v7 v8 v9 v10 v11 v12 v13 v14 v15 v16 v17 v18 v19 v20 v21).trans h)
theorem dgtext_s0_12 {res : List (TV E)} {v0 : Bool} {v1 v2 v3 v4 v5 v6 v7 v8 v9 v10 v11 v12 v13 v14 v15 v16 v17 v18 v19 v20 v21 : Int} (h : dgtext_t0_12 (Gr E Tryd.f19 res) v0 v1 v2 v3 v4 v5 v6 v7 v8 v9 v10 v11 v12 v13 v14 v15 v16 v17 v18 v19 v20 v21 = some res) : Ev E Tryd.f19 res 0 (dgtext_C0_12 v0 v1 v2 v3 v4 v5 v6 v7 v8 v9 v10 v11 v12 v13 v14 v15 v16 v17 v18 v19 v20 v21) := Ev.step dgtext_hO mix ((dgtext_l0_12 _ v0 v1 v2 v3 v4 v5 v6 v7 v8 v9 v10 v11 v12 v13 v14 v15 v16 v17 v18 v19 v20 v21).trans h)
theorem dgtext_s0_13 {res : List (TV E)} {v0 : Bool} {v1 v2 v3 v4 v5 v6 v7 v8 v9 v10 v11 v12 v13 v14 v15 v16 v17 v18 v19 v20 v21 : Int} (h : dgtext_t0_13 (Gr E Tryd.f19 res) v0 v1 v2 v3 v4 v5 v6 v7 v8 v9 v10 v11 v12 v13 v14 v15 v16 v17 v18 v19 v20 v21 = some res) : Ev E Tryd.f19 res 0 (dgtext_C0_13 v0 v1 v2 v3 v4 v5 v6 v7 v8 v9 v10 v11 v12 v13 v14 v15 v16 v17 v18 v19 v20 v21) := Ev.step dgtext_hO mix ((dgtext_l0_13 _ v0 v1 v2 v3 v4 v5 v6 v7 v8 v9 v10 v11 v12 v13 v14 v15 v16 v17 v18 v19 v20 v21).trans h)
theorem dgtext_s0_14 {res : List (TV E)} {v0 : Bool} {v1 v2 v3 v4 v5 v6 v7 v8 v9 v10 v11 v12 v13 v14 v15 v16 v17 v18 v19 v20 v21 : Int} (h : dgtext_t0_14 (Gr E Tryd.f19 res) v0 v1 v2 v3 v4 v5 v6 v7 v8 v9 v10 v11 v12 v13 v14 v15 v16 v17 v18 v19 v20 v21 = some res) : Ev E Tryd.f19 res 0 (dgtext_C0_14 v0 v1 v2 v3 v4 v5 v6 v7 v8 v9 v10 v11 v12 v13 v14 v15 v16 v17 v18 v19 v20 v21) := Ev.step dgtext_hO mix ((dgtext_l0_14 _ v0 v1 v2 v3 v4 v5 v6 v7 v8 v9 v10 v11 v12 v13 v14 v15 v16 v17 v18 v19 v20 v21).trans h)
theorem dgtext_s0_15 {res : List (TV E)} {v0 : Bool} {v1 v2 v3 v4 v5 v6 v7 v8 v9 v10 v11 v12 v13 v14 v15 v16 v17 v18 v19 v20 v21 : Int} (h : dgtext_t0_15 (Gr E Tryd.f19 res) v0 v1 v2 v3 v4 v5 v6 v7 v8 v9 v10 v11 v12 v13 v14 v15 v16 v17 v18 v19 v20 v21 = some res) : Ev E Tryd.f19 res 0 (dgtext_C0_15 v0 v1 v2 v3 v4 v5 v6 v7 v8 v9 v10 v11 v12 v13 v14 v15 v16 v17 v18 v19 v20 v21) := Ev.step dgtext_hO mix ((dgtext_l0_15 _ v0 v1 v2 v3 v4 v5 v6 v7 v8 v9 v10 v11 v12 v13 v14 v15 v16 v17 v18 v19 v20 v21).trans h)
theorem dgtext_s0_16 {res : List (TV E)} {v0 : Bool} {v1 v2 v3 v4 v5 v6 v7 v8 v9 v10 v11 v12 v13 v14 v15 v16 v17 v18 v19 v20 v21 : Int} (h : dgtext_t0_16 (Gr E Tryd.f19 res) v0 v1 v2 v3 v4 v5 v6 v7 v8 v9 v10 v11 v12 v13 v14 v15 v16 v17 v18 v19 v20 v21 = some res) : Ev E Tryd.f19 res 0 (dgtext_C0_16 v0 v1 v2 v3 v4 v5 v6 v7 v8 v9 v10 v11 v12 v13 v14 v15 v16 v17 v18 v19 v20 v21) := Ev.step dgtext_hO mix ((dgtext_l0_16 _ v0 v1 v2 v3 v4 v5 v6 v7 v8 v9 v10 v11 v12 v13 v14 v15 v16 v17 v18 v19 v20 v21).trans h)
theorem dgtext_s0_17 {res : List (TV E)} {v0 : Bool} {v1 v2 v3 v4 v5 v6 v7 v8 v9 v10 v11 v12 v13 v14 v15 v16 v17 v18 v19 v20 v21 : Int} (h : dgtext_t0_17 (Gr E Tryd.f19 res) v0 v1 v2 v3 v4 v5 v6 v7 v8 v9 v10 v11 v12 v13 v14 v15 v16 v17 v18 v19 v20 v21 = some res) : Ev E Tryd.f19 res 0 (dgtext_C0_17 v0 v1 v2 v3 v4 v5 v6 v7 v8 v9 v10 v11 v12 v13 v14 v15 v16 v17 v18 v19 v20 v21) := Ev.step dgtext_hO mix ((dgtext_l0_17 _ v0 v1 v2 v3 v4 v5 v6 v7 v8 v9 v10 v11 v12 v13 v14 v15 v16 v17 v18 v19 v20 v21).trans h)
theorem dgtext_s0_18 {res : List (TV E)} {v0 : Bool} {v1 v2 v3 v4 v5 v6 v7 v8 v9 v10 v11 v12 v13 v14 v15 v16 v17 v18 v19 v20 v21 : Int} (h : dgtext_t0_18 (Gr E Tryd.f19 res) v0 v1 v2 v3 v4 v5 v6 v7 v8 v9 v10 v11 v12 v13 v14 v15 v16 v17 v18 v19 v20 v21 = some res) : Ev E Tryd.f19 res 0 (dgtext_C0_18 v0 v1 v2 v3 v4 v5 v6 v7 v8 v9 v10 v11 v12 v13 v14 v15 v16 v17 v18 v19 v20 v21) := Ev.step dgtext_hO mix ((dgtext_l0_18 _ v0 v1 v2 v3 v4 v5 v6 v7 v8 v9 v10 v11 v12 v13 v14 v15 v16 v17 v18 v19 v20 v21).trans h)
theorem dgtext_s0_19 {res : List (TV E)} {v0 : Bool} {v1 v2 v3 v4 v5 v6 v7 v8 v9 v10 v11 v12 v13 v14 v15 v16 v17 v18 v19 v20 v21 : Int} (h : dgtext_t0_19 (Gr E Tryd.f19 res) v0 v1 v2 v3 v4 v5 v6 v7 v8 v9 v10 v11 v12 v13 v14 v15 v16 v17 v18 v19 v20 v21 = some res) : Ev E Tryd.f19 res 0 (dgtext_C0_19 v0 v1 v2 v3 v4 v5 v6 v7 v8 v9 v10 v11 v12 v13 v14 v15 v16 v17 v18 v19 v20 v21) := Ev.step dgtext_hO mix ((dgtext_l0_19 _ v0 v1 v2 v3 v4 v5 v6 v7 v8 v9 v10 v11 v12 v13 v14 v15 v16 v17 v18 v19 v20 v21).trans h)
theorem dgtext_s0_2 {res : List (TV E)} {v0 : Bool} {v1 v2 v3 v4 v5 v6 v7 v8 v9 v10 v11 v12 v13 v14 v15 v16 v17 v18 v19 v20 v21 : Int} (h : dgtext_t0_2 (Gr E Tryd.f19 res) v0 v1 v2 v3 v4 v5 v6 v7 v8 v9 v10 v11 v12 v13 v14 v15 v16 v17 v18 v19 v20 v21 = some res) : Ev E Tryd.f19 res 0 (dgtext_C0_2 v0 v1 v2 v3 v4 v5 v6 v7 v8 v9 v10 v11 v12 v13 v14 v15 v16 v17 v18 v19 v20 v21) := Ev.step dgtext_hO mix ((dgtext_l0_2 _ v0 v1 v2 v3 v4 v5 v6 v7 v8 v9 v10 v11 v12 v13 v14 v15 v16 v17 v18 v19 v20 v21).trans h)
theorem dgtext_s0_20 {res : List (TV E)} {v0 : Bool} {v1 v2 v3 v4 v5 v6 v7 v8 v9 v10 v11 v12 v13 v14 v15 v16 v17 v18 v19 v20 v21 : Int} (h : dgtext_t0_20 (Gr E Tryd.f19 res) v0 v1 v2 v3 v4 v5 v6 v7 v8 v9 v10 v11 v12 v13 v14 v15 v16 v17 v18 v19 v20 v21 = some res) : Ev E Tryd.f19 res 0 (dgtext_C0_20 v0 v1 v2 v3 v4 v5 v6 v7 v8 v9 v10 v11 v12 v13 v14 v15 v16 v17 v18 v19 v20 v21) := Ev.step dgtext_hO mix ((dgtext_l0_20 _ v0 v1 v2 v3 v4 v5 v6 v7 v8 v9 v10 v11 v12 v13 v14 v15 v16 v17 v18 v19 v20 v21).trans h)
theorem dgtext_s0_3 {res : List (TV E)} {v0 : Bool} {v1 v2 v3 v4 v5 v6 v7 v8 v9 v10 v11 v12 v13 v14 v15 v16 v17 v18 v19 v20 v21 : Int} (h : dgtext_t0_3 (Gr E Tryd.f19 res) v0 v1 v2 v3 v4 v5 v6 v7 v8 v9 v10 v11 v12 v13 v14 v15 v16 v17 v18 v19 v20 v21 = some res) : Ev E Tryd.f19 res 0 (dgtext_C0_3 v0 v1 v2 v3 v4 v5 v6 v7 v8 v9 v10 v11 v12 v13 v14 v15 v16 v17 v18 v19 v20 v21) := Ev.step dgtext_hO mix ((dgtext_l0_3 _ v0 v1 v2 v3 v4 v5 v6 v7 v8 v9 v10 v11 v12 v13 v14 v15 v16 v17 v18 v19 v20 v21).trans h)
theorem dgtext_s0_4 {res : List (TV E)} {v0 : Bool} {v1 v2 v3 v4 v5 v6 v7 v8 v9 v10 v11 v12 v13 v14 v15 v16 v17 v18 v19 v20 v21 : Int} (h : dgtext_t0_4 (Gr E Tryd.f19 res) v0 v1 v2 v3 v4 v5 v6 v7 v8 v9 v10 v11 v12 v13 v14 v15 v16 v17 v18 v19 v20 v21 = some res) : Ev E Tryd.f19 res 0 (dgtext_C0_4 v0 v1 v2 v3 v4 v5 v6 v7 v8 v9 v10 v11 v12 v13 v14 v15 v16 v17 v18 v19 v20 v21) := Ev.step dgtext_hO mix ((dgtext_l0_4 _ v0 v1 v2 v3 v4 v5 v6 v7 v8 v9 v10 v11 v12 v13 v14 v15 v16 v17 v18 v19 v20 v21).trans h)
theorem dgtext_s0_5 {res : List (TV E)} {v0 : Bool} {v1 v2 v3 v4 v5 v6 v7 v8 v9 v10 v11 v12 v13 v14 v15 v16 v17 v18 v19 v20 v21 : Int} (h : dgtext_t0_5 (Gr E Tryd.f19 res) v0 v1 v2 v3 v4 v5 v6 v7 v8 v9 v10 v11 v12 v13 v14 v15 v16 v17 v18 v19 v20 v21 = some res) : Ev E Tryd.f19 res 0 (dgtext_C0_5 v0 v1 v2 v3 v4 v5 v6 v7 v8 v9 v10 v11 v12 v13 v14 v15 v16 v17 v18 v19 v20 v21) := Ev.step dgtext_hO mix ((dgtext_l0_5 _ v0 v1 v2 v3 v4 v5 v6 v7 v8 v9 v10 v11 v12 v13 v14 v15 v16 v17 v18 v19 v20 v21).trans h)
theorem dgtext_s0_6 {res : List (TV E)} {v0 : Bool} {v1 v2 v3 v4 v5 v6 v7 v8 v9 v10 v11 v12 v13 v14 v15 v16 v17 v18 v19 v20 v21 : Int} (h : dgtext_t0_6 (Gr E Tryd.f19 res) v0 v1 v2 v3 v4 v5 v6 v7 v8 v9 v10 v11 v12 v13 v14 v15 v16 v17 v18 v19 v20 v21 = some res) : Ev E Tryd.f19 res 0 (dgtext_C0_6 v0 v1 v2 v3 v4 v5 v6 v7 v8 v9 v10 v11 v12 v13 v14 v15 v16 v17 v18 v19 v20 v21) := Ev.step dgtext_hO mix ((dgtext_l0_6 _ v0 v1 v2 v3 v4 v5 v6 v7 v8 v9 v10 v11 v12 v13 v14 v15 v16 v17 v18 v19 v20 v21).trans h)
theorem dgtext_s0_7 {res : List (TV E)} {v0 : Bool} {v1 v2 v3 v4 v5 v6 v7 v8 v9 v10 v11 v12 v13 v14 v15 v16 v17 v18 v19 v20 v21 : Int} (h : dgtext_t0_7 (Gr E Tryd.f19 res) v0 v1 v2 v3 v4 v5 v6 v7 v8 v9 v10 v11 v12 v13 v14 v15 v16 v17 v18 v19 v20 v21 = some res) : Ev E Tryd.f19 res 0 (dgtext_C0_7 v0 v1 v2 v3 v4 v5 v6 v7 v8 v9 v10 v11 v12 v13 v14 v15 v16 v17 v18 v19 v20 v21) := Ev.step dgtext_hO mix ((dgtext_l0_7 _ v0 v1 v2 v3 v4 v5 v6 v7 v8 v9 v10 v11 v12 v13 v14 v15 v16 v17 v18 v19 v20 v21).trans h)
theorem dgtext_s0_8 {res : List (TV E)} {v0 : Bool} {v1 v2 v3 v4 v5 v6 v7 v8 v9 v10 v11 v12 v13 v14 v15 v16 v17 v18 v19 v20 v21 : Int} (h : dgtext_t0_8 (Gr E Tryd.f19 res) v0 v1 v2 v3 v4 v5 v6 v7 v8 v9 v10 v11 v12 v13 v14 v15 v16 v17 v18 v19 v20 v21 = some res) : Ev E Tryd.f19 res 0 (dgtext_C0_8 v0 v1 v2 v3 v4 v5 v6 v7 v8 v9 v10 v11 v12 v13 v14 v15 v16 v17 v18 v19 v20 v21) := Ev.step dgtext_hO mix ((dgtext_l0_8 _ v0 v1 v2 v3 v4 v5 v6 v7 v8 v9 v10 v11 v12 v13 v14 v15 v16 v17 v18 v19 v20 v21).trans h)
theorem dgtext_s0_9 {res : List (TV E)} {v0 : Bool} {v1 v2 v3 v4 v5 v6 v7 v8 v9 v10 v11 v12 v13 v14 v15 v16 v17 v18 v19 v20 v21 : Int} (h : dgtext_t0_9 (Gr E Tryd.f19 res) v0 v1 v2 v3 v4 v5 v6 v7 v8 v9 v10 v11 v12 v13 v14 v15 v16 v17 v18 v19 v20 v21 = some res) : Ev E Tryd.f19 res 0 (dgtext_C0_9 v0 v1 v2 v3 v4 v5 v6 v7 v8 v9 v10 v11 v12 v13 v14 v15 v16 v17 v18 v19 v20 v21) := Ev.step dgtext_hO mix ((dgtext_l0_9 _ v0 v1 v2 v3 v4 v5 v6 v7 v8 v9 v10 v11 v12 v13 v14 v15 v16 v17 v18 v19 v20 v21).trans h)
theorem dgtext_ok_of (h : ∀ (x0 : Int), okI x0 = true → dgtext_t (Gr E Tryd.f19 [⟨.str, textV x0⟩]) x0 = some [⟨.str, textV x0⟩]) : FnOk E dgtext_id dgtext_W := fn1_ok dgtext_hO mix dgtext_f dgtext_n dgtext_b (fun x0 hk => (dgtext_e _ x0).trans (h x0 hk))
theorem ne10 : (!((10 : Int) == (0 : Int))) = true := rfl
theorem dg8 (u : Nat) : c8 (IntKind.wrap .u8 (IntKind.wrap .u64 ((48 : Int) + ((u % 10 : Nat) : Int)))) = dg (u % 10) := by
  have := dg_eq (n := ((u % 10 : Nat) : Int)) (by omega) (by omega)
  rw [Int.toNat_natCast] at this
  exact this
theorem dgx_1 (neg : Bool) (u : Nat) (v2 v3 v4 v5 v6 v7 v8 v9 v10 v11 v12 v13 v14 v15 v16 v17 v18 v19 v20 v21 : Int) (h1 : u < 10) (h2 : neg = true → 1 ≤ u ∧ u < 1) (h3 : u < 18446744073709551616) :
    Ev E Tryd.f19 [⟨.str, sgn neg ++ digsF 1 u ++ ([v3, v4, v5, v6, v7, v8, v9, v10, v11, v12, v13, v14, v15, v16, v17, v18, v19, v20, v21] : List Int).map c8⟩] 0 (dgtext_C0_1 neg u v2 v3 v4 v5 v6 v7 v8 v9 v10 v11 v12 v13 v14 v15 v16 v17 v18 v19 v20 v21) := by
  have e1 : Int.tmod (u : Int) 10 = ((u % 10 : Nat) : Int) := rfl
  have e2 : Int.tdiv (u : Int) 10 = ((u / 10 : Nat) : Int) := rfl
  refine dgtext_s0_1 ?_
  simp only [dgtext_t0_1, ne10, cond_true, e1, e2, u64_id (n := ((u / 10 : Nat) : Int)) (by omega) (by omega)]
  by_cases hu : u < 10
  · rw [eqT (show ((u / 10 : Nat) : Int) = 0 by omega), cond_true, show digsF 1 u = [dg (u % 10)] from by rw [Nat.mod_eq_of_lt hu]; unfold digsF; rw [if_pos hu], ← dg8]
    cases neg with
    | true => have := h2 rfl; omega
    | false => rfl
  · omega
theorem dgx_2 (neg : Bool) (u : Nat) (v2 v3 v4 v5 v6 v7 v8 v9 v10 v11 v12 v13 v14 v15 v16 v17 v18 v19 v20 v21 : Int) (h1 : u < 100) (h2 : neg = true → 1 ≤ u ∧ u < 10) (h3 : u < 18446744073709551616) :
    Ev E Tryd.f19 [⟨.str, sgn neg ++ digsF 2 u ++ ([v4, v5, v6, v7, v8, v9, v10, v11, v12, v13, v14, v15, v16, v17, v18, v19, v20, v21] : List Int).map c8⟩] 0 (dgtext_C0_2 neg u v2 v3 v4 v5 v6 v7 v8 v9 v10 v11 v12 v13 v14 v15 v16 v17 v18 v19 v20 v21) := by
  have e1 : Int.tmod (u : Int) 10 = ((u % 10 : Nat) : Int) := rfl
  have e2 : Int.tdiv (u : Int) 10 = ((u / 10 : Nat) : Int) := rfl
  refine dgtext_s0_2 ?_
  simp only [dgtext_t0_2, ne10, cond_true, e1, e2, u64_id (n := ((u / 10 : Nat) : Int)) (by omega) (by omega)]
  by_cases hu : u < 10
  · rw [eqT (show ((u / 10 : Nat) : Int) = 0 by omega), cond_true, show digsF 2 u = [dg (u % 10)] from by rw [Nat.mod_eq_of_lt hu]; unfold digsF; rw [if_pos hu], ← dg8]
    cases neg with
    | true => rfl
    | false => rfl
  · rw [eqF (show ((u / 10 : Nat) : Int) ≠ 0 by omega), cond_false, show digsF 2 u = digsF 1 (u / 10) ++ [dg (u % 10)] from by conv => lhs; unfold digsF; rw [if_neg hu]
                                                                                                                               , ← dg8]
    have := Gr_of (dgx_1 neg (u / 10) v2 (IntKind.wrap .u8 (IntKind.wrap .u64 ((48 : Int) + ((u % 10 : Nat) : Int)))) v4 v5 v6 v7 v8 v9 v10 v11 v12 v13 v14 v15 v16 v17 v18 v19 v20 v21 (by omega) (fun h => by have := h2 h; omega) (by omega))
    rw [← List.append_assoc, List.append_assoc (sgn neg ++ _)]
    exact this
theorem dgx_3 (neg : Bool) (u : Nat) (v2 v3 v4 v5 v6 v7 v8 v9 v10 v11 v12 v13 v14 v15 v16 v17 v18 v19 v20 v21 : Int) (h1 : u < 1000) (h2 : neg = true → 1 ≤ u ∧ u < 100) (h3 : u < 18446744073709551616) :
    Ev E Tryd.f19 [⟨.str, sgn neg ++ digsF 3 u ++ ([v5, v6, v7, v8, v9, v10, v11, v12, v13, v14, v15, v16, v17, v18, v19, v20, v21] : List Int).map c8⟩] 0 (dgtext_C0_3 neg u v2 v3 v4 v5 v6 v7 v8 v9 v10 v11 v12 v13 v14 v15 v16 v17 v18 v19 v20 v21) := by
  have e1 : Int.tmod (u : Int) 10 = ((u % 10 : Nat) : Int) := rfl
  have e2 : Int.tdiv (u : Int) 10 = ((u / 10 : Nat) : Int) := rfl
  refine dgtext_s0_3 ?_
  simp only [dgtext_t0_3, ne10, cond_true, e1, e2, u64_id (n := ((u / 10 : Nat) : Int)) (by omega) (by omega)]
  by_cases hu : u < 10
  · rw [eqT (show ((u / 10 : Nat) : Int) = 0 by omega), cond_true, show digsF 3 u = [dg (u % 10)] from by rw [Nat.mod_eq_of_lt hu]; unfold digsF; rw [if_pos hu], ← dg8]
    cases neg with
    | true => rfl
    | false => rfl
  · rw [eqF (show ((u / 10 : Nat) : Int) ≠ 0 by omega), cond_false, show digsF 3 u = digsF 2 (u / 10) ++ [dg (u % 10)] from by conv => lhs; unfold digsF; rw [if_neg hu]
                                                                                                                               , ← dg8]
    have := Gr_of (dgx_2 neg (u / 10) v2 v3 (IntKind.wrap .u8 (IntKind.wrap .u64 ((48 : Int) + ((u % 10 : Nat) : Int)))) v5 v6 v7 v8 v9 v10 v11 v12 v13 v14 v15 v16 v17 v18 v19 v20 v21 (by omega) (fun h => by have := h2 h; omega) (by omega))
    rw [← List.append_assoc, List.append_assoc (sgn neg ++ _)]
    exact this
theorem dgx_4 (neg : Bool) (u : Nat) (v2 v3 v4 v5 v6 v7 v8 v9 v10 v11 v12 v13 v14 v15 v16 v17 v18 v19 v20 v21 : Int) (h1 : u < 10000) (h2 : neg = true → 1 ≤ u ∧ u < 1000) (h3 : u < 18446744073709551616) :
    Ev E Tryd.f19 [⟨.str, sgn neg ++ digsF 4 u ++ ([v6, v7, v8, v9, v10, v11, v12, v13, v14, v15, v16, v17, v18, v19, v20, v21] : List Int).map c8⟩] 0 (dgtext_C0_4 neg u v2 v3 v4 v5 v6 v7 v8 v9 v10 v11 v12 v13 v14 v15 v16 v17 v18 v19 v20 v21) := by
  have e1 : Int.tmod (u : Int) 10 = ((u % 10 : Nat) : Int) := rfl
  have e2 : Int.tdiv (u : Int) 10 = ((u / 10 : Nat) : Int) := rfl
  refine dgtext_s0_4 ?_
  simp only [dgtext_t0_4, ne10, cond_true, e1, e2, u64_id (n := ((u / 10 : Nat) : Int)) (by omega) (by omega)]
  by_cases hu : u < 10
  · rw [eqT (show ((u / 10 : Nat) : Int) = 0 by omega), cond_true, show digsF 4 u = [dg (u % 10)] from by rw [Nat.mod_eq_of_lt hu]; unfold digsF; rw [if_pos hu], ← dg8]
    cases neg with
    | true => rfl
    | false => rfl
  · rw [eqF (show ((u / 10 : Nat) : Int) ≠ 0 by omega), cond_false, show digsF 4 u = digsF 3 (u / 10) ++ [dg (u % 10)] from by conv => lhs; unfold digsF; rw [if_neg hu]
                                                                                                                               , ← dg8]
    have := Gr_of (dgx_3 neg (u / 10) v2 v3 v4 (IntKind.wrap .u8 (IntKind.wrap .u64 ((48 : Int) + ((u % 10 : Nat) : Int)))) v6 v7 v8 v9 v10 v11 v12 v13 v14 v15 v16 v17 v18 v19 v20 v21 (by omega) (fun h => by have := h2 h; omega) (by omega))
    rw [← List.append_assoc, List.append_assoc (sgn neg ++ _)]
    exact this
theorem dgx_5 (neg : Bool) (u : Nat) (v2 v3 v4 v5 v6 v7 v8 v9 v10 v11 v12 v13 v14 v15 v16 v17 v18 v19 v20 v21 : Int) (h1 : u < 100000) (h2 : neg = true → 1 ≤ u ∧ u < 10000) (h3 : u < 18446744073709551616) :
    Ev E Tryd.f19 [⟨.str, sgn neg ++ digsF 5 u ++ ([v7, v8, v9, v10, v11, v12, v13, v14, v15, v16, v17, v18, v19, v20, v21] : List Int).map c8⟩] 0 (dgtext_C0_5 neg u v2 v3 v4 v5 v6 v7 v8 v9 v10 v11 v12 v13 v14 v15 v16 v17 v18 v19 v20 v21) := by
  have e1 : Int.tmod (u : Int) 10 = ((u % 10 : Nat) : Int) := rfl
  have e2 : Int.tdiv (u : Int) 10 = ((u / 10 : Nat) : Int) := rfl
  refine dgtext_s0_5 ?_
  simp only [dgtext_t0_5, ne10, cond_true, e1, e2, u64_id (n := ((u / 10 : Nat) : Int)) (by omega) (by omega)]
  by_cases hu : u < 10
  · rw [eqT (show ((u / 10 : Nat) : Int) = 0 by omega), cond_true, show digsF 5 u = [dg (u % 10)] from by rw [Nat.mod_eq_of_lt hu]; unfold digsF; rw [if_pos hu], ← dg8]
    cases neg with
    | true => rfl
    | false => rfl
  · rw [eqF (show ((u / 10 : Nat) : Int) ≠ 0 by omega), cond_false, show digsF 5 u = digsF 4 (u / 10) ++ [dg (u % 10)] from by conv => lhs; unfold digsF; rw [if_neg hu]
                                                                                                                               , ← dg8]
    have := Gr_of (dgx_4 neg (u / 10) v2 v3 v4 v5 (IntKind.wrap .u8 (IntKind.wrap .u64 ((48 : Int) + ((u % 10 : Nat) : Int)))) v7 v8 v9 v10 v11 v12 v13 v14 v15 v16 v17 v18 v19 v20 v21 (by omega) (fun h => by have := h2 h; omega) (by omega))
    rw [← List.append_assoc, List.append_assoc (sgn neg ++ _)]
    exact this
theorem dgx_6 (neg : Bool) (u : Nat) (v2 v3 v4 v5 v6 v7 v8 v9 v10 v11 v12 v13 v14 v15 v16 v17 v18 v19 v20 v21 : Int) (h1 : u < 1000000) (h2 : neg = true → 1 ≤ u ∧ u < 100000) (h3 : u < 18446744073709551616) :
    Ev E Tryd.f19 [⟨.str, sgn neg ++ digsF 6 u ++ ([v8, v9, v10, v11, v12, v13, v14, v15, v16, v17, v18, v19, v20, v21] : List Int).map c8⟩] 0 (dgtext_C0_6 neg u v2 v3 v4 v5 v6 v7 v8 v9 v10 v11 v12 v13 v14 v15 v16 v17 v18 v19 v20 v21) := by
  have e1 : Int.tmod (u : Int) 10 = ((u % 10 : Nat) : Int) := rfl
  have e2 : Int.tdiv (u : Int) 10 = ((u / 10 : Nat) : Int) := rfl
  refine dgtext_s0_6 ?_
  simp only [dgtext_t0_6, ne10, cond_true, e1, e2, u64_id (n := ((u / 10 : Nat) : Int)) (by omega) (by omega)]
  by_cases hu : u < 10
  · rw [eqT (show ((u / 10 : Nat) : Int) = 0 by omega), cond_true, show digsF 6 u = [dg (u % 10)] from by rw [Nat.mod_eq_of_lt hu]; unfold digsF; rw [if_pos hu], ← dg8]
    cases neg with
    | true => rfl
    | false => rfl
  · rw [eqF (show ((u / 10 : Nat) : Int) ≠ 0 by omega), cond_false, show digsF 6 u = digsF 5 (u / 10) ++ [dg (u % 10)] from by conv => lhs; unfold digsF; rw [if_neg hu]
                                                                                                                               , ← dg8]
    have := Gr_of (dgx_5 neg (u / 10) v2 v3 v4 v5 v6 (IntKind.wrap .u8 (IntKind.wrap .u64 ((48 : Int) + ((u % 10 : Nat) : Int)))) v8 v9 v10 v11 v12 v13 v14 v15 v16 v17 v18 v19 v20 v21 (by omega) (fun h => by have := h2 h; omega) (by omega))
    rw [← List.append_assoc, List.append_assoc (sgn neg ++ _)]
    exact this
theorem dgx_7 (neg : Bool) (u : Nat) (v2 v3 v4 v5 v6 v7 v8 v9 v10 v11 v12 v13 v14 v15 v16 v17 v18 v19 v20 v21 : Int) (h1 : u < 10000000) (h2 : neg = true → 1 ≤ u ∧ u < 1000000) (h3 : u < 18446744073709551616) :
    Ev E Tryd.f19 [⟨.str, sgn neg ++ digsF 7 u ++ ([v9, v10, v11, v12, v13, v14, v15, v16, v17, v18, v19, v20, v21] : List Int).map c8⟩] 0 (dgtext_C0_7 neg u v2 v3 v4 v5 v6 v7 v8 v9 v10 v11 v12 v13 v14 v15 v16 v17 v18 v19 v20 v21) := by
  have e1 : Int.tmod (u : Int) 10 = ((u % 10 : Nat) : Int) := rfl
  have e2 : Int.tdiv (u : Int) 10 = ((u / 10 : Nat) : Int) := rfl
  refine dgtext_s0_7 ?_
  simp only [dgtext_t0_7, ne10, cond_true, e1, e2, u64_id (n := ((u / 10 : Nat) : Int)) (by omega) (by omega)]
  by_cases hu : u < 10
  · rw [eqT (show ((u / 10 : Nat) : Int) = 0 by omega), cond_true, show digsF 7 u = [dg (u % 10)] from by rw [Nat.mod_eq_of_lt hu]; unfold digsF; rw [if_pos hu], ← dg8]
    cases neg with
    | true => rfl
    | false => rfl
  · rw [eqF (show ((u / 10 : Nat) : Int) ≠ 0 by omega), cond_false, show digsF 7 u = digsF 6 (u / 10) ++ [dg (u % 10)] from by conv => lhs; unfold digsF; rw [if_neg hu]
                                                                                                                               , ← dg8]
    have := Gr_of (dgx_6 neg (u / 10) v2 v3 v4 v5 v6 v7 (IntKind.wrap .u8 (IntKind.wrap .u64 ((48 : Int) + ((u % 10 : Nat) : Int)))) v9 v10 v11 v12 v13 v14 v15 v16 v17 v18 v19 v20 v21 (by omega) (fun h => by have := h2 h; omega) (by omega))
    rw [← List.append_assoc, List.append_assoc (sgn neg ++ _)]
    exact this
theorem dgx_8 (neg : Bool) (u : Nat) (v2 v3 v4 v5 v6 v7 v8 v9 v10 v11 v12 v13 v14 v15 v16 v17 v18 v19 v20 v21 : Int) (h1 : u < 100000000) (h2 : neg = true → 1 ≤ u ∧ u < 10000000) (h3 : u < 18446744073709551616) :
    Ev E Tryd.f19 [⟨.str, sgn neg ++ digsF 8 u ++ ([v10, v11, v12, v13, v14, v15, v16, v17, v18, v19, v20, v21] : List Int).map c8⟩] 0 (dgtext_C0_8 neg u v2 v3 v4 v5 v6 v7 v8 v9 v10 v11 v12 v13 v14 v15 v16 v17 v18 v19 v20 v21) := by
  have e1 : Int.tmod (u : Int) 10 = ((u % 10 : Nat) : Int) := rfl
  have e2 : Int.tdiv (u : Int) 10 = ((u / 10 : Nat) : Int) := rfl
  refine dgtext_s0_8 ?_
  simp only [dgtext_t0_8, ne10, cond_true, e1, e2, u64_id (n := ((u / 10 : Nat) : Int)) (by omega) (by omega)]
  by_cases hu : u < 10
  · rw [eqT (show ((u / 10 : Nat) : Int) = 0 by omega), cond_true, show digsF 8 u = [dg (u % 10)] from by rw [Nat.mod_eq_of_lt hu]; unfold digsF; rw [if_pos hu], ← dg8]
    cases neg with
    | true => rfl
    | false => rfl
  · rw [eqF (show ((u / 10 : Nat) : Int) ≠ 0 by omega), cond_false, show digsF 8 u = digsF 7 (u / 10) ++ [dg (u % 10)] from by conv => lhs; unfold digsF; rw [if_neg hu]
                                                                                                                               , ← dg8]
    have := Gr_of (dgx_7 neg (u / 10) v2 v3 v4 v5 v6 v7 v8 (IntKind.wrap .u8 (IntKind.wrap .u64 ((48 : Int) + ((u % 10 : Nat) : Int)))) v10 v11 v12 v13 v14 v15 v16 v17 v18 v19 v20 v21 (by omega) (fun h => by have := h2 h; omega) (by omega))
    rw [← List.append_assoc, List.append_assoc (sgn neg ++ _)]
    exact this
theorem dgx_9 (neg : Bool) (u : Nat) (v2 v3 v4 v5 v6 v7 v8 v9 v10 v11 v12 v13 v14 v15 v16 v17 v18 v19 v20 v21 : Int) (h1 : u < 1000000000) (h2 : neg = true → 1 ≤ u ∧ u < 100000000) (h3 : u < 18446744073709551616) :
    Ev E Tryd.f19 [⟨.str, sgn neg ++ digsF 9 u ++ ([v11, v12, v13, v14, v15, v16, v17, v18, v19, v20, v21] : List Int).map c8⟩] 0 (dgtext_C0_9 neg u v2 v3 v4 v5 v6 v7 v8 v9 v10 v11 v12 v13 v14 v15 v16 v17 v18 v19 v20 v21) := by
  have e1 : Int.tmod (u : Int) 10 = ((u % 10 : Nat) : Int) := rfl
  have e2 : Int.tdiv (u : Int) 10 = ((u / 10 : Nat) : Int) := rfl
  refine dgtext_s0_9 ?_
  simp only [dgtext_t0_9, ne10, cond_true, e1, e2, u64_id (n := ((u / 10 : Nat) : Int)) (by omega) (by omega)]
  by_cases hu : u < 10
  · rw [eqT (show ((u / 10 : Nat) : Int) = 0 by omega), cond_true, show digsF 9 u = [dg (u % 10)] from by rw [Nat.mod_eq_of_lt hu]; unfold digsF; rw [if_pos hu], ← dg8]
    cases neg with
    | true => rfl
    | false => rfl
  · rw [eqF (show ((u / 10 : Nat) : Int) ≠ 0 by omega), cond_false, show digsF 9 u = digsF 8 (u / 10) ++ [dg (u % 10)] from by conv => lhs; unfold digsF; rw [if_neg hu]
                                                                                                                               , ← dg8]
    have := Gr_of (dgx_8 neg (u / 10) v2 v3 v4 v5 v6 v7 v8 v9 (IntKind.wrap .u8 (IntKind.wrap .u64 ((48 : Int) + ((u % 10 : Nat) : Int)))) v11 v12 v13 v14 v15 v16 v17 v18 v19 v20 v21 (by omega) (fun h => by have := h2 h; omega) (by omega))
    rw [← List.append_assoc, List.append_assoc (sgn neg ++ _)]
    exact this
theorem dgx_10 (neg : Bool) (u : Nat) (v2 v3 v4 v5 v6 v7 v8 v9 v10 v11 v12 v13 v14 v15 v16 v17 v18 v19 v20 v21 : Int) (h1 : u < 10000000000) (h2 : neg = true → 1 ≤ u ∧ u < 1000000000) (h3 : u < 18446744073709551616) :
    Ev E Tryd.f19 [⟨.str, sgn neg ++ digsF 10 u ++ ([v12, v13, v14, v15, v16, v17, v18, v19, v20, v21] : List Int).map c8⟩] 0 (dgtext_C0_10 neg u v2 v3 v4 v5 v6 v7 v8 v9 v10 v11 v12 v13 v14 v15 v16 v17 v18 v19 v20 v21) := by
  have e1 : Int.tmod (u : Int) 10 = ((u % 10 : Nat) : Int) := rfl
  have e2 : Int.tdiv (u : Int) 10 = ((u / 10 : Nat) : Int) := rfl
  refine dgtext_s0_10 ?_
  simp only [dgtext_t0_10, ne10, cond_true, e1, e2, u64_id (n := ((u / 10 : Nat) : Int)) (by omega) (by omega)]
  by_cases hu : u < 10
  · rw [eqT (show ((u / 10 : Nat) : Int) = 0 by omega), cond_true, show digsF 10 u = [dg (u % 10)] from by rw [Nat.mod_eq_of_lt hu]; unfold digsF; rw [if_pos hu], ← dg8]
    cases neg with
    | true => rfl
    | false => rfl
  · rw [eqF (show ((u / 10 : Nat) : Int) ≠ 0 by omega), cond_false, show digsF 10 u = digsF 9 (u / 10) ++ [dg (u % 10)] from by conv => lhs; unfold digsF; rw [if_neg hu]
                                                                                                                               , ← dg8]
    have := Gr_of (dgx_9 neg (u / 10) v2 v3 v4 v5 v6 v7 v8 v9 v10 (IntKind.wrap .u8 (IntKind.wrap .u64 ((48 : Int) + ((u % 10 : Nat) : Int)))) v12 v13 v14 v15 v16 v17 v18 v19 v20 v21 (by omega) (fun h => by have := h2 h; omega) (by omega))
    rw [← List.append_assoc, List.append_assoc (sgn neg ++ _)]
    exact this
theorem dgx_11 (neg : Bool) (u : Nat) (v2 v3 v4 v5 v6 v7 v8 v9 v10 v11 v12 v13 v14 v15 v16 v17 v18 v19 v20 v21 : Int) (h1 : u < 100000000000) (h2 : neg = true → 1 ≤ u ∧ u < 10000000000) (h3 : u < 18446744073709551616) :
    Ev E Tryd.f19 [⟨.str, sgn neg ++ digsF 11 u ++ ([v13, v14, v15, v16, v17, v18, v19, v20, v21] : List Int).map c8⟩] 0 (dgtext_C0_11 neg u v2 v3 v4 v5 v6 v7 v8 v9 v10 v11 v12 v13 v14 v15 v16 v17 v18 v19 v20 v21) := by
  have e1 : Int.tmod (u : Int) 10 = ((u % 10 : Nat) : Int) := rfl
  have e2 : Int.tdiv (u : Int) 10 = ((u / 10 : Nat) : Int) := rfl
  refine dgtext_s0_11 ?_
  simp only [dgtext_t0_11, ne10, cond_true, e1, e2, u64_id (n := ((u / 10 : Nat) : Int)) (by omega) (by omega)]
  by_cases hu : u < 10
  · rw [eqT (show ((u / 10 : Nat) : Int) = 0 by omega), cond_true, show digsF 11 u = [dg (u % 10)] from by rw [Nat.mod_eq_of_lt hu]; unfold digsF; rw [if_pos hu], ← dg8]
    cases neg with
    | true => rfl
    | false => rfl
  · rw [eqF (show ((u / 10 : Nat) : Int) ≠ 0 by omega), cond_false, show digsF 11 u = digsF 10 (u / 10) ++ [dg (u % 10)] from by conv => lhs; unfold digsF; rw [if_neg hu]
                                                                                                                               , ← dg8]
    have := Gr_of (dgx_10 neg (u / 10) v2 v3 v4 v5 v6 v7 v8 v9 v10 v11 (IntKind.wrap .u8 (IntKind.wrap .u64 ((48 : Int) + ((u % 10 : Nat) : Int)))) v13 v14 v15 v16 v17 v18 v19 v20 v21 (by omega) (fun h => by have := h2 h; omega) (by omega))
    rw [← List.append_assoc, List.append_assoc (sgn neg ++ _)]
    exact this
theorem dgx_12 (neg : Bool) (u : Nat) (v2 v3 v4 v5 v6 v7 v8 v9 v10 v11 v12 v13 v14 v15 v16 v17 v18 v19 v20 v21 : Int) (h1 : u < 1000000000000) (h2 : neg = true → 1 ≤ u ∧ u < 100000000000) (h3 : u < 18446744073709551616) :
    Ev E Tryd.f19 [⟨.str, sgn neg ++ digsF 12 u ++ ([v14, v15, v16, v17, v18, v19, v20, v21] : List Int).map c8⟩] 0 (dgtext_C0_12 neg u v2 v3 v4 v5 v6 v7 v8 v9 v10 v11 v12 v13 v14 v15 v16 v17 v18 v19 v20 v21) := by
  have e1 : Int.tmod (u : Int) 10 = ((u % 10 : Nat) : Int) := rfl
  have e2 : Int.tdiv (u : Int) 10 = ((u / 10 : Nat) : Int) := rfl
  refine dgtext_s0_12 ?_
  simp only [dgtext_t0_12, ne10, cond_true, e1, e2, u64_id (n := ((u / 10 : Nat) : Int)) (by omega) (by omega)]
  by_cases hu : u < 10
  · rw [eqT (show ((u / 10 : Nat) : Int) = 0 by omega), cond_true, show digsF 12 u = [dg (u % 10)] from by rw [Nat.mod_eq_of_lt hu]; unfold digsF; rw [if_pos hu], ← dg8]
    cases neg with
    | true => rfl
    | false => rfl
  · rw [eqF (show ((u / 10 : Nat) : Int) ≠ 0 by omega), cond_false, show digsF 12 u = digsF 11 (u / 10) ++ [dg (u % 10)] from by conv => lhs; unfold digsF; rw [if_neg hu]
                                                                                                                               , ← dg8]
    have := Gr_of (dgx_11 neg (u / 10) v2 v3 v4 v5 v6 v7 v8 v9 v10 v11 v12 (IntKind.wrap .u8 (IntKind.wrap .u64 ((48 : Int) + ((u % 10 : Nat) : Int)))) v14 v15 v16 v17 v18 v19 v20 v21 (by omega) (fun h => by have := h2 h; omega) (by omega))
    rw [← List.append_assoc, List.append_assoc (sgn neg ++ _)]
    exact this
theorem dgx_13 (neg : Bool) (u : Nat) (v2 v3 v4 v5 v6 v7 v8 v9 v10 v11 v12 v13 v14 v15 v16 v17 v18 v19 v20 v21 : Int) (h1 : u < 10000000000000) (h2 : neg = true → 1 ≤ u ∧ u < 1000000000000) (h3 : u < 18446744073709551616) :
    Ev E Tryd.f19 [⟨.str, sgn neg ++ digsF 13 u ++ ([v15, v16, v17, v18, v19, v20, v21] : List Int).map c8⟩] 0 (dgtext_C0_13 neg u v2 v3 v4 v5 v6 v7 v8 v9 v10 v11 v12 v13 v14 v15 v16 v17 v18 v19 v20 v21) := by
  have e1 : Int.tmod (u : Int) 10 = ((u % 10 : Nat) : Int) := rfl
  have e2 : Int.tdiv (u : Int) 10 = ((u / 10 : Nat) : Int) := rfl
  refine dgtext_s0_13 ?_
  simp only [dgtext_t0_13, ne10, cond_true, e1, e2, u64_id (n := ((u / 10 : Nat) : Int)) (by omega) (by omega)]
  by_cases hu : u < 10
  · rw [eqT (show ((u / 10 : Nat) : Int) = 0 by omega), cond_true, show digsF 13 u = [dg (u % 10)] from by rw [Nat.mod_eq_of_lt hu]; unfold digsF; rw [if_pos hu], ← dg8]
    cases neg with
    | true => rfl
    | false => rfl
  · rw [eqF (show ((u / 10 : Nat) : Int) ≠ 0 by omega), cond_false, show digsF 13 u = digsF 12 (u / 10) ++ [dg (u % 10)] from by conv => lhs; unfold digsF; rw [if_neg hu]
                                                                                                                               , ← dg8]
    have := Gr_of (dgx_12 neg (u / 10) v2 v3 v4 v5 v6 v7 v8 v9 v10 v11 v12 v13 (IntKind.wrap .u8 (IntKind.wrap .u64 ((48 : Int) + ((u % 10 : Nat) : Int)))) v15 v16 v17 v18 v19 v20 v21 (by omega) (fun h => by have := h2 h; omega) (by omega))
    rw [← List.append_assoc, List.append_assoc (sgn neg ++ _)]
    exact this
theorem dgx_14 (neg : Bool) (u : Nat) (v2 v3 v4 v5 v6 v7 v8 v9 v10 v11 v12 v13 v14 v15 v16 v17 v18 v19 v20 v21 : Int) (h1 : u < 100000000000000) (h2 : neg = true → 1 ≤ u ∧ u < 10000000000000) (h3 : u < 18446744073709551616) :
    Ev E Tryd.f19 [⟨.str, sgn neg ++ digsF 14 u ++ ([v16, v17, v18, v19, v20, v21] : List Int).map c8⟩] 0 (dgtext_C0_14 neg u v2 v3 v4 v5 v6 v7 v8 v9 v10 v11 v12 v13 v14 v15 v16 v17 v18 v19 v20 v21) := by
  have e1 : Int.tmod (u : Int) 10 = ((u % 10 : Nat) : Int) := rfl
  have e2 : Int.tdiv (u : Int) 10 = ((u / 10 : Nat) : Int) := rfl
  refine dgtext_s0_14 ?_
  simp only [dgtext_t0_14, ne10, cond_true, e1, e2, u64_id (n := ((u / 10 : Nat) : Int)) (by omega) (by omega)]
  by_cases hu : u < 10
  · rw [eqT (show ((u / 10 : Nat) : Int) = 0 by omega), cond_true, show digsF 14 u = [dg (u % 10)] from by rw [Nat.mod_eq_of_lt hu]; unfold digsF; rw [if_pos hu], ← dg8]
    cases neg with
    | true => rfl
    | false => rfl
  · rw [eqF (show ((u / 10 : Nat) : Int) ≠ 0 by omega), cond_false, show digsF 14 u = digsF 13 (u / 10) ++ [dg (u % 10)] from by conv => lhs; unfold digsF; rw [if_neg hu]
                                                                                                                               , ← dg8]
    have := Gr_of (dgx_13 neg (u / 10) v2 v3 v4 v5 v6 v7 v8 v9 v10 v11 v12 v13 v14 (IntKind.wrap .u8 (IntKind.wrap .u64 ((48 : Int) + ((u % 10 : Nat) : Int)))) v16 v17 v18 v19 v20 v21 (by omega) (fun h => by have := h2 h; omega) (by omega))
    rw [← List.append_assoc, List.append_assoc (sgn neg ++ _)]
    exact this
theorem dgx_15 (neg : Bool) (u : Nat) (v2 v3 v4 v5 v6 v7 v8 v9 v10 v11 v12 v13 v14 v15 v16 v17 v18 v19 v20 v21 : Int) (h1 : u < 1000000000000000) (h2 : neg = true → 1 ≤ u ∧ u < 100000000000000) (h3 : u < 18446744073709551616) :
    Ev E Tryd.f19 [⟨.str, sgn neg ++ digsF 15 u ++ ([v17, v18, v19, v20, v21] : List Int).map c8⟩] 0 (dgtext_C0_15 neg u v2 v3 v4 v5 v6 v7 v8 v9 v10 v11 v12 v13 v14 v15 v16 v17 v18 v19 v20 v21) := by
  have e1 : Int.tmod (u : Int) 10 = ((u % 10 : Nat) : Int) := rfl
  have e2 : Int.tdiv (u : Int) 10 = ((u / 10 : Nat) : Int) := rfl
  refine dgtext_s0_15 ?_
  simp only [dgtext_t0_15, ne10, cond_true, e1, e2, u64_id (n := ((u / 10 : Nat) : Int)) (by omega) (by omega)]
  by_cases hu : u < 10
  · rw [eqT (show ((u / 10 : Nat) : Int) = 0 by omega), cond_true, show digsF 15 u = [dg (u % 10)] from by rw [Nat.mod_eq_of_lt hu]; unfold digsF; rw [if_pos hu], ← dg8]
    cases neg with
    | true => rfl
    | false => rfl
  · rw [eqF (show ((u / 10 : Nat) : Int) ≠ 0 by omega), cond_false, show digsF 15 u = digsF 14 (u / 10) ++ [dg (u % 10)] from by conv => lhs; unfold digsF; rw [if_neg hu]
                                                                                                                               , ← dg8]
    have := Gr_of (dgx_14 neg (u / 10) v2 v3 v4 v5 v6 v7 v8 v9 v10 v11 v12 v13 v14 v15 (IntKind.wrap .u8 (IntKind.wrap .u64 ((48 : Int) + ((u % 10 : Nat) : Int)))) v17 v18 v19 v20 v21 (by omega) (fun h => by have := h2 h; omega) (by omega))
    rw [← List.append_assoc, List.append_assoc (sgn neg ++ _)]
    exact this
theorem dgx_16 (neg : Bool) (u : Nat) (v2 v3 v4 v5 v6 v7 v8 v9 v10 v11 v12 v13 v14 v15 v16 v17 v18 v19 v20 v21 : Int) (h1 : u < 10000000000000000) (h2 : neg = true → 1 ≤ u ∧ u < 1000000000000000) (h3 : u < 18446744073709551616) :
    Ev E Tryd.f19 [⟨.str, sgn neg ++ digsF 16 u ++ ([v18, v19, v20, v21] : List Int).map c8⟩] 0 (dgtext_C0_16 neg u v2 v3 v4 v5 v6 v7 v8 v9 v10 v11 v12 v13 v14 v15 v16 v17 v18 v19 v20 v21) := by
  have e1 : Int.tmod (u : Int) 10 = ((u % 10 : Nat) : Int) := rfl
  have e2 : Int.tdiv (u : Int) 10 = ((u / 10 : Nat) : Int) := rfl
  refine dgtext_s0_16 ?_
  simp only [dgtext_t0_16, ne10, cond_true, e1, e2, u64_id (n := ((u / 10 : Nat) : Int)) (by omega) (by omega)]
  by_cases hu : u < 10
  · rw [eqT (show ((u / 10 : Nat) : Int) = 0 by omega), cond_true, show digsF 16 u = [dg (u % 10)] from by rw [Nat.mod_eq_of_lt hu]; unfold digsF; rw [if_pos hu], ← dg8]
    cases neg with
    | true => rfl
    | false => rfl
  · rw [eqF (show ((u / 10 : Nat) : Int) ≠ 0 by omega), cond_false, show digsF 16 u = digsF 15 (u / 10) ++ [dg (u % 10)] from by conv => lhs; unfold digsF; rw [if_neg hu]
                                                                                                                               , ← dg8]
    have := Gr_of (dgx_15 neg (u / 10) v2 v3 v4 v5 v6 v7 v8 v9 v10 v11 v12 v13 v14 v15 v16 (IntKind.wrap .u8 (IntKind.wrap .u64 ((48 : Int) + ((u % 10 : Nat) : Int)))) v18 v19 v20 v21 (by omega) (fun h => by have := h2 h; omega) (by omega))
    rw [← List.append_assoc, List.append_assoc (sgn neg ++ _)]
    exact this
theorem dgx_17 (neg : Bool) (u : Nat) (v2 v3 v4 v5 v6 v7 v8 v9 v10 v11 v12 v13 v14 v15 v16 v17 v18 v19 v20 v21 : Int) (h1 : u < 100000000000000000) (h2 : neg = true → 1 ≤ u ∧ u < 10000000000000000) (h3 : u < 18446744073709551616) :
    Ev E Tryd.f19 [⟨.str, sgn neg ++ digsF 17 u ++ ([v19, v20, v21] : List Int).map c8⟩] 0 (dgtext_C0_17 neg u v2 v3 v4 v5 v6 v7 v8 v9 v10 v11 v12 v13 v14 v15 v16 v17 v18 v19 v20 v21) := by
  have e1 : Int.tmod (u : Int) 10 = ((u % 10 : Nat) : Int) := rfl
  have e2 : Int.tdiv (u : Int) 10 = ((u / 10 : Nat) : Int) := rfl
  refine dgtext_s0_17 ?_
  simp only [dgtext_t0_17, ne10, cond_true, e1, e2, u64_id (n := ((u / 10 : Nat) : Int)) (by omega) (by omega)]
  by_cases hu : u < 10
  · rw [eqT (show ((u / 10 : Nat) : Int) = 0 by omega), cond_true, show digsF 17 u = [dg (u % 10)] from by rw [Nat.mod_eq_of_lt hu]; unfold digsF; rw [if_pos hu], ← dg8]
    cases neg with
    | true => rfl
    | false => rfl
  · rw [eqF (show ((u / 10 : Nat) : Int) ≠ 0 by omega), cond_false, show digsF 17 u = digsF 16 (u / 10) ++ [dg (u % 10)] from by conv => lhs; unfold digsF; rw [if_neg hu]
                                                                                                                               , ← dg8]
    have := Gr_of (dgx_16 neg (u / 10) v2 v3 v4 v5 v6 v7 v8 v9 v10 v11 v12 v13 v14 v15 v16 v17 (IntKind.wrap .u8 (IntKind.wrap .u64 ((48 : Int) + ((u % 10 : Nat) : Int)))) v19 v20 v21 (by omega) (fun h => by have := h2 h; omega) (by omega))
    rw [← List.append_assoc, List.append_assoc (sgn neg ++ _)]
    exact this
theorem dgx_18 (neg : Bool) (u : Nat) (v2 v3 v4 v5 v6 v7 v8 v9 v10 v11 v12 v13 v14 v15 v16 v17 v18 v19 v20 v21 : Int) (h1 : u < 1000000000000000000) (h2 : neg = true → 1 ≤ u ∧ u < 100000000000000000) (h3 : u < 18446744073709551616) :
    Ev E Tryd.f19 [⟨.str, sgn neg ++ digsF 18 u ++ ([v20, v21] : List Int).map c8⟩] 0 (dgtext_C0_18 neg u v2 v3 v4 v5 v6 v7 v8 v9 v10 v11 v12 v13 v14 v15 v16 v17 v18 v19 v20 v21) := by
  have e1 : Int.tmod (u : Int) 10 = ((u % 10 : Nat) : Int) := rfl
  have e2 : Int.tdiv (u : Int) 10 = ((u / 10 : Nat) : Int) := rfl
  refine dgtext_s0_18 ?_
  simp only [dgtext_t0_18, ne10, cond_true, e1, e2, u64_id (n := ((u / 10 : Nat) : Int)) (by omega) (by omega)]
  by_cases hu : u < 10
  · rw [eqT (show ((u / 10 : Nat) : Int) = 0 by omega), cond_true, show digsF 18 u = [dg (u % 10)] from by rw [Nat.mod_eq_of_lt hu]; unfold digsF; rw [if_pos hu], ← dg8]
    cases neg with
    | true => rfl
    | false => rfl
  · rw [eqF (show ((u / 10 : Nat) : Int) ≠ 0 by omega), cond_false, show digsF 18 u = digsF 17 (u / 10) ++ [dg (u % 10)] from by conv => lhs; unfold digsF; rw [if_neg hu]
                                                                                                                               , ← dg8]
    have := Gr_of (dgx_17 neg (u / 10) v2 v3 v4 v5 v6 v7 v8 v9 v10 v11 v12 v13 v14 v15 v16 v17 v18 (IntKind.wrap .u8 (IntKind.wrap .u64 ((48 : Int) + ((u % 10 : Nat) : Int)))) v20 v21 (by omega) (fun h => by have := h2 h; omega) (by omega))
    rw [← List.append_assoc, List.append_assoc (sgn neg ++ _)]
    exact this
theorem dgx_19 (neg : Bool) (u : Nat) (v2 v3 v4 v5 v6 v7 v8 v9 v10 v11 v12 v13 v14 v15 v16 v17 v18 v19 v20 v21 : Int) (h1 : u < 10000000000000000000) (h2 : neg = true → 1 ≤ u ∧ u < 1000000000000000000) (h3 : u < 18446744073709551616) :
    Ev E Tryd.f19 [⟨.str, sgn neg ++ digsF 19 u ++ ([v21] : List Int).map c8⟩] 0 (dgtext_C0_19 neg u v2 v3 v4 v5 v6 v7 v8 v9 v10 v11 v12 v13 v14 v15 v16 v17 v18 v19 v20 v21) := by
  have e1 : Int.tmod (u : Int) 10 = ((u % 10 : Nat) : Int) := rfl
  have e2 : Int.tdiv (u : Int) 10 = ((u / 10 : Nat) : Int) := rfl
  refine dgtext_s0_19 ?_
  simp only [dgtext_t0_19, ne10, cond_true, e1, e2, u64_id (n := ((u / 10 : Nat) : Int)) (by omega) (by omega)]
  by_cases hu : u < 10
  · rw [eqT (show ((u / 10 : Nat) : Int) = 0 by omega), cond_true, show digsF 19 u = [dg (u % 10)] from by rw [Nat.mod_eq_of_lt hu]; unfold digsF; rw [if_pos hu], ← dg8]
    cases neg with
    | true => rfl
    | false => rfl
  · rw [eqF (show ((u / 10 : Nat) : Int) ≠ 0 by omega), cond_false, show digsF 19 u = digsF 18 (u / 10) ++ [dg (u % 10)] from by conv => lhs; unfold digsF; rw [if_neg hu]
                                                                                                                               , ← dg8]
    have := Gr_of (dgx_18 neg (u / 10) v2 v3 v4 v5 v6 v7 v8 v9 v10 v11 v12 v13 v14 v15 v16 v17 v18 v19 (IntKind.wrap .u8 (IntKind.wrap .u64 ((48 : Int) + ((u % 10 : Nat) : Int)))) v21 (by omega) (fun h => by have := h2 h; omega) (by omega))
    rw [← List.append_assoc, List.append_assoc (sgn neg ++ _)]
    exact this
theorem dgx_20 (neg : Bool) (u : Nat) (v2 v3 v4 v5 v6 v7 v8 v9 v10 v11 v12 v13 v14 v15 v16 v17 v18 v19 v20 v21 : Int) (h1 : u < 100000000000000000000) (h2 : neg = true → 1 ≤ u ∧ u < 10000000000000000000) (h3 : u < 18446744073709551616) :
    Ev E Tryd.f19 [⟨.str, sgn neg ++ digsF 20 u ++ ([] : List Int).map c8⟩] 0 (dgtext_C0_20 neg u v2 v3 v4 v5 v6 v7 v8 v9 v10 v11 v12 v13 v14 v15 v16 v17 v18 v19 v20 v21) := by
  have e1 : Int.tmod (u : Int) 10 = ((u % 10 : Nat) : Int) := rfl
  have e2 : Int.tdiv (u : Int) 10 = ((u / 10 : Nat) : Int) := rfl
  refine dgtext_s0_20 ?_
  simp only [dgtext_t0_20, ne10, cond_true, e1, e2, u64_id (n := ((u / 10 : Nat) : Int)) (by omega) (by omega)]
  by_cases hu : u < 10
  · rw [eqT (show ((u / 10 : Nat) : Int) = 0 by omega), cond_true, show digsF 20 u = [dg (u % 10)] from by rw [Nat.mod_eq_of_lt hu]; unfold digsF; rw [if_pos hu], ← dg8]
    cases neg with
    | true => rfl
    | false => rfl
  · rw [eqF (show ((u / 10 : Nat) : Int) ≠ 0 by omega), cond_false, show digsF 20 u = digsF 19 (u / 10) ++ [dg (u % 10)] from by conv => lhs; unfold digsF; rw [if_neg hu]
                                                                                                                               , ← dg8]
    have := Gr_of (dgx_19 neg (u / 10) v2 v3 v4 v5 v6 v7 v8 v9 v10 v11 v12 v13 v14 v15 v16 v17 v18 v19 v20 (IntKind.wrap .u8 (IntKind.wrap .u64 ((48 : Int) + ((u % 10 : Nat) : Int)))) (by omega) (fun h => by have := h2 h; omega) (by omega))
    rw [← List.append_assoc, List.append_assoc (sgn neg ++ _)]
    exact this
theorem dgtext_ok : FnOk E dgtext_id dgtext_W := dgtext_ok_of fun n hk => by
  have hk : -9223372036854775808 ≤ n ∧ n ≤ 9223372036854775807 := by simpa [okI] using hk
  simp only [dgtext_t, textV]
  by_cases h : n < 0
  · have e : IntKind.wrap .u64 ((0 : Int) - IntKind.wrap .u64 n) = ((-n).toNat : Int) := by rw [wu64, wu64]; omega
    rw [dT h, e]
    have := Gr_of (dgx_20 true (-n).toNat 0 0 0 0 0 0 0 0 0 0 0 0 0 0 0 0 0 0 0 0 (by omega) (fun _ => by omega) (by omega))
    rw [List.map_nil, List.append_nil] at this
    exact this
  · have e : IntKind.wrap .u64 n = (n.toNat : Int) := by rw [wu64]; omega
    rw [dF h, e]
    have := Gr_of (dgx_20 false n.toNat 0 0 0 0 0 0 0 0 0 0 0 0 0 0 0 0 0 0 0 0 (by omega) (fun h => by cases h) (by omega))
    rw [List.map_nil, List.append_nil] at this
    exact this
theorem fn2_kit {f : FuncId} {a b t : E.Ty} {ok : E.Den a → E.Den b → Bool} {F : E.Den a → E.Den b → E.Den t} (ex : ∃ fn, Tryd.prog.funcs[f]? = some fn ∧ (fn.name == "runtime.NumGoroutine") = false ∧ fn.body.isNone = false) (h : ∀ x y, ok x y = true → CallsOk E f [⟨a, x⟩, ⟨b, y⟩] [⟨t, F x y⟩]) : FnOk E f (fn2 a b t ok F) :=
  ⟨ex, fun args r hr => by
    unfold fn2 at hr
    split at hr
    · split at hr
      · rename_i x hx
        split at hr
        · rename_i y hy
          injection hr with hr
          injection hr with h1 h2
          subst h2
          rw [castV_eq hx, castV_eq hy]
          exact h _ _ h1
        · cases hr
      · cases hr
    · cases hr⟩
def okIx (s p : List UInt8) : Bool := decide (s.length ≤ 1000000) && decide (p.length = 1)
def ixV (s p : List UInt8) : Int := Lib.indexByte s (p.headD 0)
noncomputable def sindex_W : FnW E := fn2 (E := E) .str .str .int okIx ixV
def sindex_id : FuncId := 42
theorem sindex_ok : FnOk E sindex_id sindex_W := fn2_kit ⟨Tryd.f42, by kernel_rfl, by kernel_rfl, by kernel_rfl⟩ fun s p hk => by
  simp only [okIx, Bool.and_eq_true, decide_eq_true_eq] at hk
  obtain ⟨c, rfl⟩ : ∃ c, p = [c] := by
    match p, hk.2 with
    | [c], _ => exact ⟨c, rfl⟩
  intro w ro vals hargs hrolt
  match vals, hargs with
  | [u, v], ⟨h1, h2, _⟩ =>
    have e1 : u = .string ⟨s.toArray⟩ := by
      rcases h1 with ⟨ha, _⟩ | ⟨_, d, hd, hr⟩
      · cases ha
      · have hd : ([.str s] : List (DVal E.Den)) = [d] := hd
        injection hd with hd _
        subst hd
        cases hr; rfl
    have e2 : v = .string ⟨[c].toArray⟩ := by
      rcases h2 with ⟨ha, _⟩ | ⟨_, d, hd, hr⟩
      · cases ha
      · have hd : ([.str [c]] : List (DVal E.Den)) = [d] := hd
        injection hd with hd _
        subst hd
        cases hr; rfl
    subst e1; subst e2
    refine (Tryd.stringslite_Index_one ⟨s.toArray⟩ c w).mono fun e w' he => ?_
    obtain ⟨he, rfl⟩ := he
    refine ⟨_, he, Below.refl _ _, .inr ⟨rfl, .int .i64 (ixV s [c]), rfl, ?_⟩⟩
    exact .int .i64 (Lib.indexByte s c)
theorem ix_ge (s : List UInt8) (c : UInt8) : Lib.indexByte s c < 0 ∨ ∃ i : Nat, Lib.indexByte s c = i ∧ i < s.length := by
  induction s with
  | nil => exact .inl (show (-1 : Int) < 0 by decide)
  | cons a t ih =>
    unfold Lib.indexByte
    split
    · exact .inr ⟨0, rfl, by simp⟩
    · rcases ih with h | ⟨i, h1, h2⟩
      · left
        split
        · decide
        · have := Lib.indexByte_ge t c
          rename_i hne
          exfalso
          have : Lib.indexByte t c = -1 := by omega
          rw [this] at hne
          exact hne rfl
      · right
        split
        · rename_i he
          rw [h1] at he
          have : (i : Int) = -1 := (beq_iff_eq.1 he)
          omega
        · exact ⟨i + 1, by rw [h1]; omega, by simp; omega⟩
end Go.Proofs.YtinangndhcbjbaaDoor.Rf
namespace Go.Proofs.YtinangndhcbjbaaDoor.Rf
open Go Go.RowKit Go.Sort Go.Proofs.YtinangndhcbjbaaDoor.Mir
noncomputable def gindex_W : FnW E := fn2 (E := E) .str .str .int okIx ixV
def gindex_id : FuncId := 37
noncomputable def gindex_O : Oracle E := orac [(42, sindex_W)] [] [] []
noncomputable def gindex_H : Hint E := Hint.mk [] [] [] [] [] 5 []
noncomputable def gindex_t (_G : Nat → ASt E → Option (List (TV E))) (x0 x1 : List UInt8) : Option (List (TV E)) :=
  bif (okIx x0 x1) then some [⟨.int, (ixV x0 x1)⟩] else none
theorem gindex_e (G : Nat → ASt E → Option (List (TV E))) (x0 : List UInt8) (x1 : List UInt8) : runE gindex_O gindex_H G Tryd.f37 [⟨.str, x0⟩, ⟨.str, x1⟩] = gindex_t G x0 x1 := by kernel_rfl
theorem gindex_f : Tryd.prog.funcs[37]? = some Tryd.f37 := by kernel_rfl
theorem gindex_n : (Tryd.f37.name == "runtime.NumGoroutine") = false := by kernel_rfl
theorem gindex_b : Tryd.f37.body.isNone = false := by kernel_rfl
theorem gindex_hO : OracleOk E gindex_O := orac_ok (.cons sindex_ok .nil) .nil .nil .nil
theorem gindex_ok_of (h : ∀ (x0 : List UInt8) (x1 : List UInt8), okIx x0 x1 = true → gindex_t (Gr E Tryd.f37 [⟨.int, ixV x0 x1⟩]) x0 x1 = some [⟨.int, ixV x0 x1⟩]) : FnOk E gindex_id gindex_W := fn2_ok gindex_hO mix gindex_f gindex_n gindex_b (fun x0 x1 hk => (gindex_e _ x0 x1).trans (h x0 x1 hk))
theorem gindex_ok : FnOk E gindex_id gindex_W := gindex_ok_of fun s p hk => by simp only [gindex_t, hk, cond_true]
section
def regOf (i : Nat) : Code → Option (Array Oper)
  | .region id ops _ => bif Nat.beq id i then some ops else none
  | .seq x y => match regOf i x with | some r => some r | none => regOf i y
  | .cond _ x y => match regOf i x with | some r => some r | none => regOf i y
  | .block _ c => regOf i c
  | .loop c => regOf i c
  | .scope c => regOf i c
  | .rangeFunc _ _ x y => match regOf i x with | some r => some r | none => regOf i y
  | _ => none
def opsOf (f : Func) (i : Nat) : Array Oper := match f.body with
  | some c => (match regOf i c with | some r => r | none => #[])
  | none => #[]
noncomputable def A3 : Code := .region 3 (opsOf Tryd.f6 3) false
noncomputable def B4 : Code := .block 1 (.region 4 (opsOf Tryd.f6 4) false)
def mob (parts : List (List UInt8)) (rest : List UInt8) (gid : Nat) : List (Nat × AObj E) :=
  [(0, .box [.grow Ty.str parts gid]), (1, .box [.d (.str rest)]), (2, .box [.d (.str [47])]), (3, .box [.d (.int .i64 0)]), (gid, .tail true)]
noncomputable def rc (fn : FuncId) (tms : Array Value) (D : Nat) (st : LoopState) : Loop := { state := st, pending := none, fn := fn, tmps := tms, params := #[11], assign := A3, body := B4, defers := D }
def hd (l D : Nat) (o : Obj) : Nat → Option Obj := fun k => if k = l then some o else if k = D then some (.deferred (some [])) else none
def wS (W : World) (l D : Nat) (o : Obj) : Mir.Start := ⟨W, none, none, [], hd l D o⟩
theorem hd_hd (l D : Nat) (o o' : Obj) : (fun k => if k = l then some o' else hd l D o k) = hd l D o' := by
  funext k
  unfold hd
  by_cases e : k = l
  · rw [if_pos e, if_pos e]
  · rw [if_neg e, if_neg e, if_neg e]
theorem wS_put {W : World} {ro0 : Nat → Nat → Prop} {l D : Nat} {o o' : Obj} {S : ASt E} {a : Act} {w : World} {ι : Nat → Option Gh} {ro : Nat → Nat → Prop} (hg : Gam E (wS W l D o) ro0 S a w ι ro) (hb : W.heap.size ≤ l) (h1 : o.isCells = false) (h2 : o'.isCells = false) :
    Gam E (wS W l D o') ro0 S a (w.putObj l o') ι ro ∧ Kept w ι ro (w.putObj l o') ι ro := by
  obtain ⟨g1, g2⟩ := hg.putHeld rfl (l := l) (o := o) (o' := o') (if_pos rfl) hb h1 h2
  refine ⟨?_, g2⟩
  have e : ({ wS W l D o with h := fun k => if k = l then some o' else (wS W l D o).h k } : Mir.Start) = wS W l D o' := by
    show (⟨W, none, none, [], fun k => if k = l then some o' else hd l D o k⟩ : Mir.Start) = _
    rw [hd_hd]; rfl
  rwa [e] at g1
theorem wS_at {W : World} {ro0 : Nat → Nat → Prop} {l D : Nat} {o : Obj} {S : ASt E} {a : Act} {w : World} {ι : Nat → Option Gh} {ro : Nat → Nat → Prop} (hg : Gam E (wS W l D o) ro0 S a w ι ro) : w.heap[l]? = some o := (hg.base.held l o (if_pos rfl)).1
noncomputable def itO : Oracle E := orac [(gindex_id, gindex_W)] [] [] []
theorem itO_ok : OracleOk E itO := orac_ok (.cons gindex_ok .nil) .nil .nil .nil
theorem r3_e (x : List UInt8) (parts : List (List UInt8)) (rest : List UInt8) : evSeq itO (opsOf Tryd.f6 3) 53 [(11, .d (.str x)), (6, .ptr 0 0)] (opsOf Tryd.f6 3).toList [] (mob parts rest 4) 100 (pk [7, 6] [0, 1, 2, 3, 4] 110) = some ⟨53, [(7, .d (.str x)), (6, .ptr 0 0)], mob parts rest 4, 110⟩ := by kernel_rfl
theorem r4_e (x : List UInt8) (parts : List (List UInt8)) (rest : List UInt8) : evSeq itO (opsOf Tryd.f6 4) 53 [(7, .d (.str x)), (6, .ptr 0 0)] (opsOf Tryd.f6 4).toList [] (mob parts rest 4) 110 (pk [] [0, 1, 2, 3, 113] 200) =
    bif decide ((parts.length + [x].length) * 16 ≤ maxBytes) then some ⟨53, [], mob (parts ++ [x]) rest 113, 200⟩ else none := by kernel_rfl
theorem round_ok {W : World} {ro0 : Nat → Nat → Prop} {l D fn n : Nat} {tms : Array Value} {g6 nx : Nat} {gh0 : Gh} {tm : List (Nat × AV E)} {parts : List (List UInt8)} {rest x : List UInt8} {a : Act} {w : World} {ι : Nat → Option Gh} {ro : Nat → Nat → Prop}
    (hW : W.heap.size ≤ l) (hts : tms.size = 53) (h6 : tms[6]? = some (.pointer (some ⟨g6, 0, none⟩))) (hv0 : gh0.v = .pointer (some ⟨g6, 0, none⟩)) (hi0 : ι 0 = some gh0) (hlen : parts.length ≤ 1000000) (hnx : nx ≤ 100)
    (hg : Gam E (wS W l D (.loop (rc fn tms D .ready))) ro0 ⟨52, tm, mob parts rest 4, nx⟩ a w ι ro) :
    (Instr.yield l #[.string ⟨x.toArray⟩]).run Tryd.prog w = .ok (.round l fn (tms.setIfInBounds 11 (.string ⟨x.toArray⟩)) A3 B4) w ∧
    RoundIn (Wd none) n Tryd.prog l fn (tms.setIfInBounds 11 (.string ⟨x.toArray⟩)) A3 B4 w fun e w' => ∃ v, e = .returned v ∧ v = .bool true ∧ ∃ ι' ro', Gam E (wS W l D (.loop (rc fn tms D .ready))) ro0 ⟨52, tm, mob (parts ++ [x]) rest 113, 200⟩ a w' ι' ro' ∧ Kept w ι ro w' ι' ro' := by
  have hl := wS_at hg
  refine ⟨by rw [run_yield hl rfl]; first | (simp [rc]; done) | kernel_rfl, ?_⟩
  refine roundIn_of_wpIn (F := Wd none) trivial ?_
  show A3.wpIn (Wd (some l)) n Tryd.prog _ _ w
  let a1 : Act := { tmps := tms.setIfInBounds 11 (.string ⟨x.toArray⟩), defers := [] }
  have hg1 : Gam E (wS W l D (.loop (rc fn tms D .ready))) ro0 ⟨53, [(11, .d (.str x)), (6, .ptr 0 0)], mob parts rest 4, 100⟩ a1 w ι ro := by
    refine hg.frame rfl (by simp [a1, hts]) (fun t y hl => ?_) hnx
    simp only [Mir.look] at hl
    split at hl
    · rename_i hb
      have := Nat.eq_of_beq_eq_true hb
      subst this
      cases hl
      exact ⟨.string ⟨x.toArray⟩, by simp [a1, hts], Rep.d _ _ (.str x)⟩
    · split at hl
      · rename_i hb
        have := Nat.eq_of_beq_eq_true hb
        subst this
        cases hl
        exact ⟨.pointer (some ⟨g6, 0, none⟩), by simp [a1, h6], Rep.ptr gh0 g6 0 0 hi0 hv0⟩
      · cases hl
  refine reg_pk itO_ok rfl (fun p hp => by simp at hp; rcases hp with rfl | rfl <;> rfl) hg1 (by kernel_rfl) [7, 6] [0, 1, 2, 3, 4] 110 _ (r3_e x parts rest) fun a2 w2 ι2 ro2 hnc2 hg2 hk2 => ?_
  refine ⟨_, run_beginRound (wS_at hg2) rfl, ?_⟩
  obtain ⟨hg3, hk3⟩ := wS_put (o' := .loop (rc fn tms D .busy)) hg2 hW rfl rfl
  show B4.wpIn (Wd (some l)) n Tryd.prog _ a2 _
  refine wpIn_block ?_
  have hr4 := r4_e x parts rest
  rw [dT (show (parts.length + [x].length) * 16 ≤ maxBytes by simp only [List.length_singleton, maxBytes]; omega), cond_true] at hr4
  refine reg_pk itO_ok rfl hnc2 hg3 (by kernel_rfl) [] [0, 1, 2, 3, 113] 200 _ hr4 fun a4 w4 ι4 ro4 hnc4 hg4 hk4 => ?_
  refine ⟨_, _, run_endRound none (wS_at hg4), _, rfl, rfl, ?_⟩
  obtain ⟨hg5, hk5⟩ := wS_put (o' := .loop (rc fn tms D .ready)) hg4 hW rfl rfl
  have hk := ((hk2.trans hk3).trans hk4).trans hk5
  exact ⟨ι4, ro4, hg5.frame hg.base.defers hg.size (hg.tmps.kept hk) (Nat.le_refl _), hk⟩
end
end Go.Proofs.YtinangndhcbjbaaDoor.Rf
namespace Go.Proofs.YtinangndhcbjbaaDoor.Rf
open Go Go.RowKit Go.Sort Go.Proofs.YtinangndhcbjbaaDoor.Mir
def splP : List UInt8 → List (List UInt8)
  | [] => [[]]
  | c :: r => bif c == 47 then [] :: splP r else match splP r with
    | h :: t => (c :: h) :: t
    | [] => [[c]]
theorem splP_cons (c : UInt8) (r : List UInt8) : splP (c :: r) = bif c == 47 then [] :: splP r else match splP r with | h :: t => (c :: h) :: t | [] => [[c]] := rfl
theorem splP_none : ∀ (s : List UInt8), Lib.indexByte s 47 < 0 → splP s = [s]
  | [], _ => rfl
  | c :: r, h => by
    unfold Lib.indexByte at h
    split at h
    · exact absurd h (by decide)
    · rename_i hc
      have hr : Lib.indexByte r 47 < 0 := by
        rcases ix_ge r 47 with h' | ⟨i, h', _⟩
        · exact h'
        · rw [h'] at h
          split at h
          · rename_i he; have : (i : Int) = -1 := beq_iff_eq.1 he
            omega
          · omega
      unfold splP
      rw [splP_none r hr, show (c == 47) = false by simpa using hc]
      rfl
theorem splP_some : ∀ (s : List UInt8) (i : Nat), Lib.indexByte s 47 = (i : Int) → splP s = s.take i :: splP (s.drop (i + 1))
  | [], i, h => by exact absurd h (by show ¬ ((-1 : Int) = (i : Int)); omega)
  | c :: r, i, h => by
    unfold Lib.indexByte at h
    split at h
    · rename_i hc
      have hi : i = 0 := by omega
      subst hi
      have hc : (c == 47) = true := by simpa using hc
      rw [splP_cons, hc]; rfl
    · rename_i hc
      rcases ix_ge r 47 with h' | ⟨j, h', _⟩
      · split at h
        · omega
        · have := Lib.indexByte_ge r 47
          rename_i he
          have he : ¬ Lib.indexByte r 47 = -1 := by simpa using he
          omega
      · rw [h'] at h
        split at h
        · rename_i he; have : (j : Int) = -1 := beq_iff_eq.1 he
          omega
        · have hj : i = j + 1 := by omega
          subst hj
          rw [splP_cons, splP_some r j h', show (c == 47) = false by simpa using hc]
          rfl
section
noncomputable abbrev i35 (i : Nat) : Array Oper := opsOf Tryd.f35 i
noncomputable def itL : Code := .block 3 (.seq (.region 5 (i35 5) false) (.seq (.seq (.region 6 (i35 6) false) (.cond (.tmp 33) (.exit 2) .skip)) (.seq (.region 7 (i35 7) false) (.seq (.seq (.region 8 (i35 8) false) (.cond (.tmp 42) .ret .skip)) (.region 9 (i35 9) false)))))
def YL (l : Nat) : AV E := .d (.raw (.func (.yield l) #[] #[]))
def tm0 (l : Nat) : List (Nat × AV E) := [(0, YL l), (1, .ptr 2 0), (2, .ptr 1 0), (3, .ptr 3 0)]
theorem r5_e (l : Nat) (parts : List (List UInt8)) (rest : List UInt8) : evSeq itO (i35 5) 52 (tm0 l) (i35 5).toList [] (mob parts rest 4) 5 (pk [7, 0, 1, 2, 3] [0, 1, 2, 3, 4] 20) = bif okIx rest [47] then some ⟨52, (7, .d (.int .i64 (ixV rest [47]))) :: tm0 l, mob parts rest 4, 20⟩ else none := by kernel_rfl
theorem r6_e (l : Nat) (i : Int) (parts : List (List UInt8)) (rest : List UInt8) : evSeq itO (i35 6) 52 ((7, .d (.int .i64 i)) :: tm0 l) (i35 6).toList [] (mob parts rest 4) 20 (pk [33, 7, 0, 1, 2, 3] [0, 1, 2, 3, 4] 30) = some ⟨52, (33, .d (.bool (decide (i < 0)))) :: (7, .d (.int .i64 i)) :: tm0 l, mob parts rest 4, 30⟩ := by kernel_rfl
theorem r7_e (l : Nat) (i : Int) (b : Bool) (parts : List (List UInt8)) (rest : List UInt8) : evSeq itO (i35 7) 52 ((33, .d (.bool b)) :: (7, .d (.int .i64 i)) :: tm0 l) (i35 7).toList [] (mob parts rest 4) 30 (pk [8, 7, 0, 1, 2, 3] [0, 1, 2, 3, 4] 40) =
    bif decide ((0 : Int) ≤ 0) && decide ((0 : Int) ≤ w64 (i + 0)) && decide (w64 (i + 0) ≤ (rest.length : Int)) then some ⟨52, (8, .d (.str (List.take (Int.toNat (w64 (i + 0)) - Int.toNat 0) (List.drop (Int.toNat 0) rest)))) :: (7, .d (.int .i64 i)) :: tm0 l, mob parts rest 4, 40⟩ else none := by kernel_rfl
theorem r8_e (l : Nat) (i : Int) (x : List UInt8) (parts : List (List UInt8)) (rest : List UInt8) : evSeq itO (i35 8) 52 ((8, .d (.str x)) :: (7, .d (.int .i64 i)) :: tm0 l) ((i35 8).toList.take 2) [] (mob parts rest 4) 40 (pk [39, 40, 7, 0, 1, 2, 3] [0, 1, 2, 3, 4] 50) = some ⟨52, (39, YL l) :: (40, .d (.str x)) :: (7, .d (.int .i64 i)) :: tm0 l, mob parts rest 4, 50⟩ := by kernel_rfl
theorem r8_f (l : Nat) (i : Int) (x : List UInt8) (parts : List (List UInt8)) (rest : List UInt8) : evSeq itO (i35 8) 52 ((41, .d (.bool true)) :: (39, YL l) :: (40, .d (.str x)) :: (7, .d (.int .i64 i)) :: tm0 l) ((i35 8).toList.drop 3) [] (mob parts rest 113) 200 (pk [42, 7, 0, 1, 2, 3] [0, 1, 2, 3, 113] 210) = some ⟨52, (42, .d (.bool false)) :: (7, .d (.int .i64 i)) :: tm0 l, mob parts rest 113, 210⟩ := by kernel_rfl
theorem r9_e (l : Nat) (i : Int) (parts : List (List UInt8)) (rest : List UInt8) : evSeq itO (i35 9) 52 ((42, .d (.bool false)) :: (7, .d (.int .i64 i)) :: tm0 l) (i35 9).toList [] (mob parts rest 113) 210 (pk [0, 1, 2, 3] [0, 1, 2, 3, 113] 230) =
    bif decide ((0 : Int) ≤ w64 (i + 1)) && decide (w64 (i + 1) ≤ (rest.length : Int)) && decide ((rest.length : Int) ≤ (rest.length : Int)) then some ⟨52, tm0 l, mob parts (List.take (Int.toNat (rest.length : Int) - Int.toNat (w64 (i + 1))) (List.drop (Int.toNat (w64 (i + 1))) rest)) 113, 230⟩ else none := by kernel_rfl
theorem bool_at {w0 : Mir.Start} {ro0 : Nat → Nat → Prop} {S : ASt E} {a : Act} {w : World} {ι : Nat → Option Gh} {ro : Nat → Nat → Prop} (hg : Gam E w0 ro0 S a w ι ro) {t : Nat} {b : Bool} (h : getA S.tmps [] (.tmp t) = .d (.bool b)) : a.eval (.tmp t) = .bool b := by
  have hc := getA_rep (E := E) (asm := []) hg.tmps (fun j b hb => by simp [hasAsm] at hb) (.tmp t)
  rw [h] at hc
  exact hc.bool_inv
theorem d_at {w0 : Mir.Start} {ro0 : Nat → Nat → Prop} {S : ASt E} {a : Act} {w : World} {ι : Nat → Option Gh} {ro : Nat → Nat → Prop} (hg : Gam E w0 ro0 S a w ι ro) {t : Nat} {c : DVal E.Den} (h : getA S.tmps [] (.tmp t) = .d c) : DRep E w ro (a.eval (.tmp t)) c := by
  have hc := getA_rep (E := E) (asm := []) hg.tmps (fun j b hb => by simp [hasAsm] at hb) (.tmp t)
  rw [h] at hc
  generalize a.eval (.tmp t) = v at hc
  cases hc with
  | d _ _ h => exact h
theorem it_round {W : World} {ro0 : Nat → Nat → Prop} {l D fn n : Nat} {tms : Array Value} {g6 : Nat} {gh0 : Gh} {parts : List (List UInt8)} {rest x : List UInt8} {a : Act} {w : World} {ι : Nat → Option Gh} {ro : Nat → Nat → Prop} {i : Int} {Q : Exit → Act → World → Prop}
    (hW : W.heap.size ≤ l) (hts : tms.size = 53) (h6 : tms[6]? = some (.pointer (some ⟨g6, 0, none⟩))) (hv0 : gh0.v = .pointer (some ⟨g6, 0, none⟩)) (hi0 : ι 0 = some gh0) (hlen : parts.length ≤ 1000000)
    (hg : Gam E (wS W l D (.loop (rc fn tms D .ready))) ro0 ⟨52, (8, .d (.str x)) :: (7, .d (.int .i64 i)) :: tm0 l, mob parts rest 4, 40⟩ a w ι ro)
    (hK : ∀ a' w' ι' ro', Gam E (wS W l D (.loop (rc fn tms D .ready))) ro0 ⟨52, (42, .d (.bool false)) :: (7, .d (.int .i64 i)) :: tm0 l, mob (parts ++ [x]) rest 113, 210⟩ a' w' ι' ro' → ι' 0 = some gh0 → Q .normal a' w') : (Code.region 8 (i35 8) false).wpIn (Wd none) n Tryd.prog Q a w := by
  refine wpIn_region_list ?_
  refine step_pk (l := (i35 8).toList.take 2) (l2 := (i35 8).toList.drop 2) itO_ok rfl (fun p hp => by simp [tm0, YL] at hp; rcases hp with rfl | rfl | rfl | rfl | rfl | rfl <;> rfl) hg (List.take_append_drop _ _).symm (by kernel_rfl) (r8_e l i x parts rest) fun a1 w1 ι1 ro1 hnc1 hg1 hk1 => ?_
  have hx : a1.eval (.tmp 40) = .string ⟨x.toArray⟩ := by
    have := d_at (c := .str x) hg1 (t := 40) rfl
    generalize a1.eval (.tmp 40) = v at this
    cases this; rfl
  have hy : a1.eval (.tmp 39) = .func (.yield l) #[] #[] := by
    have := d_at (c := .raw (.func (.yield l) #[] #[])) hg1 (t := 39) rfl
    generalize a1.eval (.tmp 39) = v at this
    cases this; rfl
  obtain ⟨q1, q2⟩ := round_ok (n := n - 1) (x := x) hW hts h6 hv0 (hk1.ext _ _ hi0) hlen (by omega) hg1
  have e2 : (i35 8).toList.drop 2 = (i35 8)[2]! :: (i35 8).toList.drop 3 := by kernel_rfl
  rw [e2]
  refine wpListIn_plain (by kernel_rfl) fun K hK' => ?_
  refine yield_op (show ((i35 8)[2]!).op = .call { callee := .value (.tmp 39), args := #[.tmp 40], argTypes := #[9] } by kernel_rfl) hy (by rw [show (#[Operand.tmp 40].map a1.eval) = #[a1.eval (.tmp 40)] by simp, hx]; exact q1) (q2.mono fun e w2 he => ?_)
  obtain ⟨v, rfl, rfl, ι2, ro2, hg2, hk2⟩ := he
  refine ⟨_, rfl, hK' _ _ ?_⟩
  have ed : ((i35 8)[2]!).dst = some 41 := by kernel_rfl
  rw [ed]
  obtain ⟨hg3, hnc3⟩ := hg2.put hnc1 (d := 41) (val := .bool true) (x := .d (.bool true)) (by decide) (.d _ _ (.bool true)) rfl
  exact step_pk (l2 := []) itO_ok rfl hnc3 hg3 (List.append_nil _).symm (by kernel_rfl) (r8_f l i x (parts ++ [x]) rest) fun a4 w4 ι4 ro4 hnc4 hg4 hk4 => hK a4 w4 ι4 ro4 hg4 (hk4.ext _ _ (hk2.ext _ _ (hk1.ext _ _ hi0)))
theorem tm0_nc (l : Nat) : NoCond (tm0 (l : Nat)) := fun p hp => by simp [tm0, YL] at hp; rcases hp with rfl | rfl | rfl | rfl <;> rfl
theorem nc_cons {tm : List (Nat × AV E)} {t : Nat} {c : DVal E.Den} (h : NoCond tm) : NoCond ((t, .d c) :: tm) := fun p hp => by
  cases hp with
  | head => rfl
  | tail _ hp => exact h p hp
theorem tm0_plain (l : Nat) (objs : List (Nat × AObj E)) (t : Nat) (y : AV E) (h : Mir.look (tm0 l) t = some y) : plainV objs y = y := by
  have := look_mem _ _ _ h
  simp [tm0, YL] at this
  rcases this with ⟨_, rfl⟩ | ⟨_, rfl⟩ | ⟨_, rfl⟩ | ⟨_, rfl⟩ <;> rfl
theorem it_loop {W : World} {ro0 : Nat → Nat → Prop} {l D fn : Nat} {tms : Array Value} {g6 : Nat} {gh0 : Gh} {Q : Exit → Act → World → Prop} (hW : W.heap.size ≤ l) (hts : tms.size = 53) (h6 : tms[6]? = some (.pointer (some ⟨g6, 0, none⟩))) (hv0 : gh0.v = .pointer (some ⟨g6, 0, none⟩)) (all : List (List UInt8))
    (hQ : ∀ a w ι ro parts rest, ι 0 = some gh0 → parts.length ≤ 1000000 → parts ++ [rest] = all → Gam E (wS W l D (.loop (rc fn tms D .ready))) ro0 ⟨52, tm0 l, mob parts rest 4, 40⟩ a w ι ro → Q (.exit 2) a w)
    (rest : List UInt8) (parts : List (List UInt8)) (a : Act) (w : World) (ι : Nat → Option Gh) (ro : Nat → Nat → Prop) (hlen : parts.length + rest.length ≤ 1000000) (hall : parts ++ splP rest = all) (hi0 : ι 0 = some gh0)
    (hg : Gam E (wS W l D (.loop (rc fn tms D .ready))) ro0 ⟨52, tm0 l, mob parts rest 4, 5⟩ a w ι ro) : LoopWp Tryd.prog itL Q a w := by
  induction hm : rest.length using Nat.strongRecOn generalizing rest parts a w ι ro with
  | _ m ih =>
  refine LoopWp.round (wp_block ((wpIn_wide (n := 0)).1 ?_))
  show Code.wpIn (Wd none) 0 Tryd.prog _ _ a w
  refine wpIn_seq ?_
  have h5 := r5_e l parts rest
  rw [show okIx rest [47] = true by simp [okIx]; omega, cond_true] at h5
  refine reg_pk itO_ok rfl (tm0_nc l) hg (by kernel_rfl) _ _ _ _ h5 fun a1 w1 ι1 ro1 nc1 g1 k1 => ?_
  refine wpIn_seq (wpIn_seq ?_)
  refine reg_pk itO_ok rfl nc1 g1 (by kernel_rfl) _ _ _ _ (r6_e l (ixV rest [47]) parts rest) fun a2 w2 ι2 ro2 nc2 g2 k2 => ?_
  have hi2 := k2.ext _ _ (k1.ext _ _ hi0)
  have hb := bool_at g2 (t := 33) (b := decide (ixV rest [47] < 0)) rfl
  rcases ix_ge rest 47 with h | ⟨i, h1, h2⟩
  · have h : ixV rest [47] < 0 := h
    rw [dT h] at hb
    refine wpIn_cond_true hb (wpIn_exit ?_)
    obtain ⟨_, g3, _⟩ := g2.pick nc2 (ts := [0, 1, 2, 3]) (ids := [0, 1, 2, 3, 4]) (nx := 40) (X := ⟨52, tm0 l, mob parts rest 4, 40⟩) (by kernel_rfl)
    have := hQ a2 w2 ι2 ro2 parts rest hi2 (by omega) (by rw [← splP_none rest h]; exact hall) g3
    simpa [Exit.then, Exit.inBlock] using this
  · have hi : ixV rest [47] = (i : Int) := h1
    rw [hi, dF (show ¬ (i : Int) < 0 by omega)] at hb
    refine wpIn_cond_false hb (wpIn_skip ?_)
    rw [hi] at g2 nc2
    have ei : w64 ((i : Int) + 0) = (i : Int) := by rw [w64_id (by omega) (by omega)]; omega
    have ei1 : w64 ((i : Int) + 1) = ((i + 1 : Nat) : Int) := by rw [w64_id (by omega) (by omega)]; omega
    have h7 := r7_e l (i : Int) (decide ((i : Int) < 0)) parts rest
    rw [ei, dT (show (0 : Int) ≤ 0 by omega), dT (show (0 : Int) ≤ (i : Int) by omega), dT (show (i : Int) ≤ (rest.length : Int) by omega)] at h7
    simp only [Bool.and_self, cond_true, Int.toNat_zero, Nat.sub_zero, List.drop_zero, Int.toNat_natCast] at h7
    refine wpIn_seq ?_
    refine reg_pk itO_ok rfl nc2 g2 (by kernel_rfl) _ _ _ _ h7 fun a3 w3 ι3 ro3 nc3 g3 k3 => ?_
    refine wpIn_seq (wpIn_seq ?_)
    refine it_round hW hts h6 hv0 (k3.ext _ _ hi2) (by omega) g3 fun a4 w4 ι4 ro4 g4 hi4 => ?_
    refine wpIn_cond_false (bool_at g4 (t := 42) (b := false) rfl) (wpIn_skip ?_)
    have h9 := r9_e l (i : Int) (parts ++ [rest.take i]) rest
    rw [ei1, dT (show (0 : Int) ≤ ((i + 1 : Nat) : Int) by omega), dT (show ((i + 1 : Nat) : Int) ≤ (rest.length : Int) by omega), dT (show (rest.length : Int) ≤ (rest.length : Int) by omega)] at h9
    simp only [Bool.and_self, cond_true, Int.toNat_natCast] at h9
    rw [show List.take (rest.length - (i + 1)) (List.drop (i + 1) rest) = List.drop (i + 1) rest from List.take_of_length_le (by rw [List.length_drop]; omega)] at h9
    refine reg_pk itO_ok rfl (nc_cons (nc_cons (tm0_nc l))) g4 (by kernel_rfl) _ _ _ _ h9 fun a5 w5 ι5 ro5 nc5 g5 k5 => ?_
    obtain ⟨nc6, g6'⟩ := ren_sound (S := ⟨52, tm0 l, mob (parts ++ [rest.take i]) (rest.drop (i + 1)) 113, 230⟩) [0, 1, 2, 3, 113] (by decide) (tm0 l) (fun t y h => ⟨y, h, (tm0_plain l _ t y h).symm⟩) rfl nc5 g5
    have g7 : Gam E (wS W l D (.loop (rc fn tms D .ready))) ro0 ⟨52, tm0 l, mob (parts ++ [rest.take i]) (rest.drop (i + 1)) 4, 5⟩ a5 w5 (fun j => (([0, 1, 2, 3, 113] : List Nat)[j]?).bind ι5) ro5 := g6'
    refine ih _ ?_ (rest.drop (i + 1)) (parts ++ [rest.take i]) a5 w5 _ ro5 ?_ ?_ ?_ g7 rfl
    · rw [← hm, List.length_drop]; omega
    · rw [List.length_append, List.length_drop, List.length_singleton]; omega
    · rw [List.append_assoc, List.singleton_append, ← splP_some rest i h1]; exact hall
    · exact k5.ext _ _ hi4
end
end Go.Proofs.YtinangndhcbjbaaDoor.Rf
namespace Go.Proofs.YtinangndhcbjbaaDoor.Rf
open Go Go.RowKit Go.Sort Go.Proofs.YtinangndhcbjbaaDoor.Mir
section
noncomputable def itX : Code := match (Tryd.f35).body with
  | some (.seq (.seq _ (.cond _ x _)) _) => x
  | _ => .skip
theorem it_body : (Tryd.f35).body = some (.seq (.seq (.region 0 (i35 0) false) (.cond (.tmp 11) itX .skip)) (.seq (.block 2 (.loop itL)) (.region 10 (i35 10) false))) := by kernel_rfl
theorem r0_e (l : Nat) (parts : List (List UInt8)) (rest : List UInt8) : evSeq itO (i35 0) 52 (tm0 l) (i35 0).toList [] (mob parts rest 4) 5 (pk [11, 0, 1, 2, 3] [0, 1, 2, 3, 4] 20) = some ⟨52, (11, .d (.bool false)) :: tm0 l, mob parts rest 4, 20⟩ := by kernel_rfl
theorem r10_e (l : Nat) (parts : List (List UInt8)) (rest : List UInt8) : evSeq itO (i35 10) 52 (tm0 l) ((i35 10).toList.take 2) [] (mob parts rest 4) 40 (pk [49, 50] [0, 1, 2, 3, 4] 50) = some ⟨52, [(49, YL l), (50, .d (.str rest))], mob parts rest 4, 50⟩ := by kernel_rfl
def Caps (ι : Nat → Option Gh) (us : Array Value) : Prop := ∃ (gh1 gh2 gh3 : Gh) (b1 b2 b3 : Nat), us = #[.pointer (some ⟨b2, 0, none⟩), .pointer (some ⟨b1, 0, none⟩), .pointer (some ⟨b3, 0, none⟩)] ∧
  (ι 1 = some gh1 ∧ gh1.v = .pointer (some ⟨b1, 0, none⟩)) ∧ (ι 2 = some gh2 ∧ gh2.v = .pointer (some ⟨b2, 0, none⟩)) ∧ (ι 3 = some gh3 ∧ gh3.v = .pointer (some ⟨b3, 0, none⟩))
theorem it_call {W : World} {ro0 : Nat → Nat → Prop} {l D fn : Nat} {tms us : Array Value} {g6 : Nat} {gh0 : Gh} (hW : W.heap.size ≤ l) (hts : tms.size = 53) (h6 : tms[6]? = some (.pointer (some ⟨g6, 0, none⟩))) (hv0 : gh0.v = .pointer (some ⟨g6, 0, none⟩))
    {m : Nat} {tm : List (Nat × AV E)} {s : List UInt8} {a : Act} {w : World} {ι : Nat → Option Gh} {ro : Nat → Nat → Prop} (hs : s.length ≤ 1000000) (hi0 : ι 0 = some gh0) (hcap : Caps ι us)
    (hg : Gam E (wS W l D (.loop (rc fn tms D .ready))) ro0 ⟨m, tm, mob [] s 4, 5⟩ a w ι ro) :
    Calls Tryd.prog 35 (#[.func (.yield l) #[] #[]] ++ us) w fun e w' => (∃ v, e = .returned v) ∧ ∃ ι' ro' rest, ι' 0 = some gh0 ∧ Gam E (wS W l D (.loop (rc fn tms D .ready))) ro0 ⟨0, [], mob (splP s) rest 113, 200⟩ { tmps := #[], defers := [] } w' ι' ro' := by
  obtain ⟨gh1, gh2, gh3, b1, b2, b3, rfl, ⟨p1, q1⟩, ⟨p2, q2⟩, ⟨p3, q3⟩⟩ := hcap
  refine calls_of_wp (show Tryd.prog.funcs[35]? = some Tryd.f35 by kernel_rfl) it_body ?_
  have hnt : (Tryd.f35).ntmps = 52 := by kernel_rfl
  rw [hnt, show (#[.func (.yield l) #[] #[]] ++ #[.pointer (some ⟨b2, 0, none⟩), .pointer (some ⟨b1, 0, none⟩), .pointer (some ⟨b3, 0, none⟩)] : Array Value) = #[.func (.yield l) #[] #[], .pointer (some ⟨b2, 0, none⟩), .pointer (some ⟨b1, 0, none⟩), .pointer (some ⟨b3, 0, none⟩)] by simp]
  generalize hA : (#[.func (.yield l) #[] #[], .pointer (some ⟨b2, 0, none⟩), .pointer (some ⟨b1, 0, none⟩), .pointer (some ⟨b3, 0, none⟩)] : Array Value) = A
  have hz : A.size = 4 := by rw [← hA]; simp
  have hat : ∀ t, t < 4 → (A ++ Array.replicate (52 - A.size) undef)[t]? = A[t]? := fun t ht => by rw [Array.getElem?_append_left (by omega)]
  have hg1 : Gam E (wS W l D (.loop (rc fn tms D .ready))) ro0 ⟨52, tm0 l, mob [] s 4, 5⟩ { tmps := A ++ Array.replicate (52 - A.size) undef, defers := [] } w ι ro := by
    refine hg.frame rfl (by simp [hz]) (fun t y hl => ?_) (Nat.le_refl _)
    simp only [tm0, Mir.look] at hl
    split at hl
    · rename_i hb
      have := Nat.eq_of_beq_eq_true hb
      subst this
      cases hl
      exact ⟨_, (hat 0 (by decide)).trans (by rw [← hA]; rfl), Rep.d _ _ (.raw _ rfl)⟩
    split at hl
    · rename_i hb
      have := Nat.eq_of_beq_eq_true hb
      subst this
      cases hl
      exact ⟨_, (hat 1 (by decide)).trans (by rw [← hA]; rfl), Rep.ptr gh2 b2 2 0 p2 q2⟩
    split at hl
    · rename_i hb
      have := Nat.eq_of_beq_eq_true hb
      subst this
      cases hl
      exact ⟨_, (hat 2 (by decide)).trans (by rw [← hA]; rfl), Rep.ptr gh1 b1 1 0 p1 q1⟩
    split at hl
    · rename_i hb
      have := Nat.eq_of_beq_eq_true hb
      subst this
      cases hl
      exact ⟨_, (hat 3 (by decide)).trans (by rw [← hA]; rfl), Rep.ptr gh3 b3 3 0 p3 q3⟩
    · cases hl
  refine wp_seq (wp_seq ((wpIn_wide (n := 0)).1 ?_))
  show Code.wpIn (Wd none) 0 Tryd.prog _ _ _ w
  refine reg_pk itO_ok rfl (tm0_nc l) hg1 (by kernel_rfl) _ _ _ _ (r0_e l [] s) fun a1 w1 ι1 ro1 nc1 g1 k1 => ?_
  refine wp_cond_false (bool_at g1 (t := 11) (b := false) rfl) (wp_skip ?_)
  obtain ⟨_, g2, _⟩ := g1.pick nc1 (ts := [0, 1, 2, 3]) (ids := [0, 1, 2, 3, 4]) (nx := 20) (X := ⟨52, tm0 l, mob [] s 4, 20⟩) (by kernel_rfl)
  obtain ⟨nc3, g3'⟩ := ren_sound (S := ⟨52, tm0 l, mob [] s 4, 20⟩) [0, 1, 2, 3, 4] (by decide) (tm0 l) (fun t y h => ⟨y, h, (tm0_plain l _ t y h).symm⟩) rfl (tm0_nc l) g2
  have g3 : Gam E (wS W l D (.loop (rc fn tms D .ready))) ro0 ⟨52, tm0 l, mob [] s 4, 5⟩ a1 w1 (fun j => (([0, 1, 2, 3, 4] : List Nat)[j]?).bind ι1) ro1 := g3'
  have hi3 : (fun j => (([0, 1, 2, 3, 4] : List Nat)[j]?).bind ι1) 0 = some gh0 := k1.ext _ _ hi0
  refine wp_seq (wp_block (LoopWp.wp (it_loop hW hts h6 hv0 (splP s) ?_ s [] a1 w1 (fun j => (([0, 1, 2, 3, 4] : List Nat)[j]?).bind ι1) ro1 (by simpa using hs) rfl hi3 g3)))
  intro a4 w4 ι4 ro4 parts rest hi4 hlen hall g4
  show Code.wp Tryd.prog _ _ a4 w4
  refine (wpIn_wide (n := 0)).1 ?_
  show Code.wpIn (Wd none) 0 Tryd.prog _ _ a4 w4
  refine wpIn_region_list ?_
  refine step_pk (l := (i35 10).toList.take 2) (l2 := (i35 10).toList.drop 2) itO_ok rfl (tm0_nc l) g4 (List.take_append_drop _ _).symm (by kernel_rfl) (r10_e l parts rest) fun a5 w5 ι5 ro5 hnc5 g5 k5 => ?_
  have hx : a5.eval (.tmp 50) = .string ⟨rest.toArray⟩ := by
    have := d_at (c := .str rest) g5 (t := 50) rfl
    generalize a5.eval (.tmp 50) = v at this
    cases this; rfl
  have hy : a5.eval (.tmp 49) = .func (.yield l) #[] #[] := by
    have := d_at (c := .raw (.func (.yield l) #[] #[])) g5 (t := 49) rfl
    generalize a5.eval (.tmp 49) = v at this
    cases this; rfl
  obtain ⟨u1, u2⟩ := round_ok (n := 0) (x := rest) hW hts h6 hv0 (k5.ext _ _ hi4) hlen (by omega) g5
  have e2 : (i35 10).toList.drop 2 = (i35 10)[2]! :: [] := by kernel_rfl
  rw [e2]
  refine wpListIn_plain (by kernel_rfl) fun K hK' => ?_
  refine yield_op (show ((i35 10)[2]!).op = .call { callee := .value (.tmp 49), args := #[.tmp 50], argTypes := #[9] } by kernel_rfl) hy (by rw [show (#[Operand.tmp 50].map a5.eval) = #[a5.eval (.tmp 50)] by simp, hx]; exact u1) (u2.mono fun e w6 he => ?_)
  obtain ⟨v, rfl, rfl, ι6, ro6, g6', k6⟩ := he
  refine ⟨_, rfl, hK' _ _ ?_⟩
  rw [hall] at g6'
  have hd6 : (a5.put ((i35 10)[2]!).dst (.bool true)).defers = [] := by
    have := g6'.base.defers
    cases ((i35 10)[2]!).dst <;> exact this
  exact wpListIn_nil ⟨hd6, .tuple #[], (by kernel_rfl), ⟨_, rfl⟩, ι6, ro6, rest, k6.ext _ _ (k5.ext _ _ hi4), g6'.frame rfl rfl (fun t y h => by cases h) (Nat.le_refl _)⟩
end
end Go.Proofs.YtinangndhcbjbaaDoor.Rf
namespace Go.Proofs.YtinangndhcbjbaaDoor.Rf
open Go Go.RowKit Go.Sort Go.Proofs.YtinangndhcbjbaaDoor.Mir
section
noncomputable abbrev i6 (i : Nat) : Array Oper := opsOf Tryd.f6 i
noncomputable def tailC : Code := match (Tryd.f6).body with
  | some (.seq _ (.seq _ (.seq _ x))) => x
  | _ => .skip
theorem sp_body : (Tryd.f6).body = some (.seq (.region 0 (i6 0) false) (.seq (.region 1 (i6 1) false) (.seq (.seq (.region 2 (i6 2) false) (.block 0 (.rangeFunc (.tmp 10) #[11] A3 B4))) tailC))) := by kernel_rfl
noncomputable def mT : List (FuncId × Func) := [(13, Tryd.f13), (22, Tryd.f22)]
noncomputable def mO : Oracle E := withI itO mT
theorem mO_ok : OracleOk E mO := withI_ok itO_ok mix (.cons (by kernel_rfl) (by kernel_rfl) (by kernel_rfl) (.cons (by kernel_rfl) (by kernel_rfl) (by kernel_rfl) .nil))
def mtm : List (Nat × AV E) := [(6, .ptr 10 0), (10, .fn 35 [] [.ptr 25 0, .ptr 24 0, .ptr 26 0])]
def X2 (s : List UInt8) : ASt E := ⟨53, mtm, [(10, .box [.d (.raw (.slice none 0 0))]), (24, .box [.d (.str s)]), (25, .box [.d (.str [47])]), (26, .box [.d (.int .i64 0)])], 60⟩
def X3 (s : List UInt8) : ASt E := ⟨53, mtm, [(10, .box [.grow Ty.str [] 60]), (24, .box [.d (.str s)]), (25, .box [.d (.str [47])]), (26, .box [.d (.int .i64 0)]), (60, .tail true)], 61⟩
theorem m0_e (s : List UInt8) : evSeq mO (i6 0) 53 [(0, .d (.str s))] (i6 0).toList [] [] 0 (pk [0] [] 10) = some ⟨53, [(0, .d (.str s))], [], 10⟩ := by kernel_rfl
theorem m1_e (s : List UInt8) : evSeq mO (i6 1) 53 [(0, .d (.str s))] (i6 1).toList [] [] 10 (pk [0, 6] [10] 20) = some ⟨53, [(0, .d (.str s)), (6, .ptr 10 0)], [(10, .box [.d (.raw (.slice none 0 0))])], 20⟩ := by kernel_rfl
theorem m2_e (s : List UInt8) : evSeq mO (i6 2) 53 [(0, .d (.str s)), (6, .ptr 10 0)] (i6 2).toList [] [(10, .box [.d (.raw (.slice none 0 0))])] 20 (pk [6, 10] [10, 24, 25, 26] 60) = some (X2 s) := by kernel_rfl
theorem gam_start1 {w : World} {ro : Nat → Nat → Prop} (s : List UInt8) (hrolt : ∀ k o, ro k o → k < w.heap.size) : Gam E ⟨w, none, none, [], fun _ => none⟩ ro ⟨53, [(0, .d (.str s))], [], 0⟩ { tmps := #[.string ⟨s.toArray⟩] ++ Array.replicate (53 - 1) undef, defers := [] } w (fun _ => none) ro where
  base := ⟨⟨rfl, rfl, rfl, Nat.le_refl _, fun _ _ _ => rfl⟩, hrolt, fun k o h => .inl h, (fun id gh k h => by cases h), rfl, (fun q h => by cases h), (fun k o h => by cases h)⟩
  size := by simp
  tmps := fun t x hl => by
    simp only [Mir.look] at hl
    split at hl
    · rename_i hb
      have := Nat.eq_of_beq_eq_true hb
      subst this
      cases hl
      exact ⟨.string ⟨s.toArray⟩, by rw [Array.getElem?_append_left (by simp)]; rfl, Rep.d _ _ (.str s)⟩
    · cases hl
  objs := fun id o hl => by cases hl
  inj := fun id id' o o' gh gh' k hl => by cases hl
  fresh := fun _ _ => rfl
  ids := fun id o hl => by cases hl
theorem cell_same {w w' : World} {k : Nat} (h : w'.heap[k]? = w.heap[k]?) (o : Nat) : w'.cell? ⟨k, o, none⟩ = w.cell? ⟨k, o, none⟩ := by
  unfold World.cell?
  rw [h]
theorem split_of (O : Oracle E) (hO : OracleOk E O) (s : List UInt8) (hs : s.length ≤ 1000000) (res : List (TV E))
    (he : ∀ rest, evU O {} 1 tailC ⟨53, [(6, .ptr 0 0)], mob (splP s) rest 113, 200⟩ (endK Tryd.f6) = some res) : CallsOk E 6 [⟨.str, s⟩] res := by
  intro W ro0 vals hargs hrolt
  match vals, hargs with
  | [u], ⟨h1, _⟩ =>
  have eu : u = .string ⟨s.toArray⟩ := by
    rcases h1 with ⟨ha, _⟩ | ⟨_, d, hd, hr⟩
    · cases ha
    · have hd : ([.str s] : List (DVal E.Den)) = [d] := hd
      injection hd with hd _
      subst hd
      cases hr; rfl
  subst eu
  refine (callsIn_wide (n := 0)).1 (callsIn_of_wp_marks (show Tryd.prog.funcs[6]? = some Tryd.f6 by kernel_rfl) sp_body trivial ?_)
  have hnt : (Tryd.f6).ntmps = 53 := by kernel_rfl
  rw [hnt, show ([Value.string ⟨s.toArray⟩].toArray : Array Value) = #[.string ⟨s.toArray⟩] from rfl, show (#[Value.string ⟨s.toArray⟩] : Array Value).size = 1 from rfl]
  show Code.wpIn (Wd none) 0 Tryd.prog _ _ _ W
  refine wpIn_seq ?_
  refine reg_pk mO_ok rfl (fun p hp => by simp at hp; subst hp; rfl) (gam_start1 s hrolt) (by kernel_rfl) _ _ _ _ (m0_e s) fun a0 w0 ι0 r0 nc0 g0 k0 => ?_
  refine wpIn_seq ?_
  refine reg_pk mO_ok rfl nc0 g0 (by kernel_rfl) _ _ _ _ (m1_e s) fun a1 w1 ι1 r1 nc1 g1 k1 => ?_
  refine wpIn_seq (wpIn_seq ?_)
  refine reg_pk mO_ok rfl nc1 g1 (by kernel_rfl) _ _ _ _ (m2_e s) fun a w ι2 ro nc2 g2 k2 => ?_
  obtain ⟨ι, nc3', g3', _⟩ := nilS_sound [(6, some 0, true, Ty.str)] (X2 s) ι2 nc2 g2
  obtain ⟨nc3, g3, _⟩ := g3'.pick nc3' (ts := [6, 10]) (ids := [10, 24, 25, 26, 60]) (nx := 61) (X := X3 s) (by kernel_rfl)
  obtain ⟨v6, h6, r6⟩ := g3.tmps 6 (.ptr 10 0) rfl
  obtain ⟨v10, h10, r10⟩ := g3.tmps 10 (.fn 35 [] [.ptr 25 0, .ptr 24 0, .ptr 26 0]) rfl
  have r6 : Rep E w ro ι v6 (.ptr 10 0) := r6
  have r10 : Rep E w ro ι v10 (.fn 35 [] [.ptr 25 0, .ptr 24 0, .ptr 26 0]) := r10
  cases r6 with
  | ptr gh0 g6 _ _ hi0 hv0 =>
  cases r10 with
  | fn _ vs us _ _ hvs hus _ hur =>
  have hvs0 : vs = #[] := Array.eq_empty_of_size_eq_zero hvs
  subst hvs0
  obtain ⟨us⟩ := us
  match us, hus, hur with
  | [p, q, r], _, hur =>
  have rp : Rep E w ro ι p (.ptr 25 0) := hur 0 p _ rfl rfl
  have rq : Rep E w ro ι q (.ptr 24 0) := hur 1 q _ rfl rfl
  have rr : Rep E w ro ι r (.ptr 26 0) := hur 2 r _ rfl rfl
  cases rp with
  | ptr gh2 b2 _ _ hi2 hv2 =>
  cases rq with
  | ptr gh1 b1 _ _ hi1 hv1 =>
  cases rr with
  | ptr gh3 b3 _ _ hi3 hv3 =>
  obtain ⟨_, g4'⟩ := ren_sound (S := X3 s) [10, 24, 25, 26, 60] (by decide) [] (fun t y h => by cases h) rfl nc3 g3
  generalize hι : (fun j : Nat => ((([10, 24, 25, 26, 60] : List Nat)[j]?).bind ι : Option Gh)) = ι4 at g4'
  have g4 : Gam E ⟨W, none, none, [], fun _ => none⟩ ro0 ⟨53, [], mob [] s 4, 5⟩ a w ι4 ro := g4'
  have hcap : Caps ι4 #[.pointer (some ⟨b2, 0, none⟩), .pointer (some ⟨b1, 0, none⟩), .pointer (some ⟨b3, 0, none⟩)] := by
    subst hι
    exact ⟨gh1, gh2, gh3, b1, b2, b3, rfl, ⟨hi1, hv1⟩, ⟨hi2, hv2⟩, ⟨hi3, hv3⟩⟩
  have hi0' : ι4 0 = some gh0 := by subst hι; exact hi0
  have hda : a.defers = [] := g4.base.defers
  have hsz : a.tmps.size = 53 := g4.size
  have hWw : W.heap.size ≤ w.heap.size := g4.base.below.size
  refine wpIn_block ?_
  refine wpIn_rangeFunc fun fn hfn => ?_
  let rec0 : Loop := rc fn a.tmps w.heap.size .ready
  let W1 : World := (w.alloc (.deferred (some []))).alloc (.loop rec0)
  have hfr : ∀ k, k < w.heap.size → W1.heap[k]? = w.heap[k]? := fun k hk =>
    (Below.heap_alloc (w.alloc (.deferred (some []))) (.loop rec0) k (by rw [World.size_alloc]; omega)).trans (Below.heap_alloc w (.deferred (some [])) k hk)
  have hD : W1.heap[w.heap.size]? = some (.deferred (some [])) := (Below.heap_alloc (w.alloc (.deferred (some []))) (.loop rec0) _ (by rw [World.size_alloc]; omega)).trans (World.alloc_heap_new w _)
  have hL : W1.heap[w.heap.size + 1]? = some (.loop rec0) := by
    have := World.alloc_heap_new (w.alloc (.deferred (some []))) (.loop rec0)
    rwa [World.size_alloc] at this
  have hgW : Gam E (wS W (w.heap.size + 1) w.heap.size (.loop rec0)) ro0 ⟨53, [], mob [] s 4, 5⟩ a W1 ι4 ro := by
    refine g4.turn rfl (H := hd (w.heap.size + 1) w.heap.size (.loop rec0)) (dl := []) hda rfl rfl rfl rfl (by show w.heap.size ≤ ((w.alloc (.deferred (some []))).alloc (.loop rec0)).heap.size; rw [World.size_alloc, World.size_alloc]; omega) (fun k hk => .inr (hfr k hk)) (fun k o hk => cell_same (hfr k hk) o) (fun k o hk => ?_)
    have hgh : ∀ id gh, ι4 id = some gh → ∀ k, w.heap.size ≤ k → gh.blk ≠ some k := fun id gh h1 k h2 h3 => by
      have := (g4.base.ilt id gh k h1 h3).2
      omega
    unfold hd at hk
    split at hk
    · rename_i e; subst e; cases hk; exact ⟨hL, fun id gh h1 => hgh id gh h1 _ (by omega)⟩
    · split at hk
      · rename_i e; subst e; cases hk; exact ⟨hD, fun id gh h1 => hgh id gh h1 _ (by omega)⟩
      · cases hk
  have hev : a.eval (.tmp 10) = .func (.func 35) #[] #[.pointer (some ⟨b2, 0, none⟩), .pointer (some ⟨b1, 0, none⟩), .pointer (some ⟨b3, 0, none⟩)] := by
    simp [Act.eval, h10]
  refine ⟨w.heap.size + 1, [{ target := .collected w.heap.size, args := #[] }], W1, { target := .fn (.func 35) #[.pointer (some ⟨b2, 0, none⟩), .pointer (some ⟨b1, 0, none⟩), .pointer (some ⟨b3, 0, none⟩)], args := #[.func (.yield (w.heap.size + 1)) #[] #[]] }, W1, 35,
    #[.func (.yield (w.heap.size + 1)) #[] #[]] ++ #[.pointer (some ⟨b2, 0, none⟩), .pointer (some ⟨b1, 0, none⟩), .pointer (some ⟨b3, 0, none⟩)], W1, run_enterLoop_outer fn a.tmps #[11] A3 B4, ?_, fun _ _ => trivial, ?_, fun h => (by cases h), ?_⟩
  · simp only [resolve, hev]
    simp [go_sem]
  · have h1 : Tryd.prog.funcs[35]? = some Tryd.f35 := by kernel_rfl
    have h2 : ((Tryd.f35).name == "runtime.NumGoroutine") = false := by kernel_rfl
    have h3 : (Tryd.f35).body.isNone = false := by kernel_rfl
    have hn : ¬ (Tryd.f35).name = "runtime.NumGoroutine" := by intro e; rw [e] at h2; simp at h2
    have hb : ¬ (Tryd.f35).body = none := by intro e; rw [e] at h3; simp at h3
    simp only [invoke, callFunc]
    simp [h1, hn, hb, program, Sem.run]
  · refine callsIn_wd.2 ((it_call (by omega) hsz h6 hv0 hs hi0' hcap hgW).mono fun e w5 he => ?_)
    obtain ⟨⟨v, rfl⟩, ι5, ro5, rest, hi5, g5⟩ := he
    refine ⟨none, _, run_endLoop (wS_at g5) (by simp [rec0, rc]), ?_⟩
    obtain ⟨g6', _⟩ := wS_put (o' := .loop { rec0 with state := .exhausted }) g5 (by omega) rfl rfl
    generalize hw6 : w5.putObj (w.heap.size + 1) (.loop { rec0 with state := .exhausted }) = w6 at g6'
    show Code.wpIn Fence.wide 0 Tryd.prog tailC _ _ _
    refine wpIn_wide.2 ?_
    have g7 := g6'.frame (a' := a) (m := 53) (nx := 200) (tm := [(6, .ptr 0 0)]) hda hsz (fun t y hl => by
      simp only [Mir.look] at hl
      split at hl
      · rename_i hb
        have := Nat.eq_of_beq_eq_true hb
        subst this
        cases hl
        exact ⟨_, h6, Rep.ptr gh0 g6 0 0 hi5 hv0⟩
      · cases hl) (Nat.le_refl _)
    have g8 : Gam E ⟨W, none, none, [{ target := .collected w.heap.size, args := #[] }], fun k => if k = w.heap.size then some (.deferred (some [])) else none⟩ ro0 ⟨53, [(6, .ptr 0 0)], mob (splP s) rest 113, 200⟩ { a with defers := [{ target := .collected w.heap.size, args := #[] }] ++ a.defers } w6 ι5 ro5 := by
      refine g7.turn rfl (H := fun k => if k = w.heap.size then some (.deferred (some [])) else none) (dl := [{ target := .collected w.heap.size, args := #[] }]) (by show [_] ++ a.defers = _; rw [hda]; rfl) rfl rfl rfl rfl (Nat.le_refl _) (fun _ _ => .inr rfl) (fun _ _ _ => rfl) (fun k o hk => ?_)
      split at hk
      · rename_i e
        subst e
        cases hk
        exact g7.base.held _ _ (by show hd _ _ _ _ = _; unfold hd; rw [if_neg (by omega), if_pos rfl])
      · cases hk
    subst hw6
    refine evU_sound (rr := res) (n := 53) hO mix (h := {}) (m := 1) tailC _ (endK Tryd.f6) _ _ _ ι5 ro5 (fun p hp => by simp at hp; subst hp; rfl) g8 rfl (he rest) fun e S' a' w' ι' ro' nc' g' hn' hk => ?_
    have hdD := (g'.base.held w.heap.size (.deferred (some [])) (if_pos rfl)).1
    have hdf : a'.defers = [{ target := .collected w.heap.size, args := #[] }] := g'.base.defers
    obtain ⟨q1, q2⟩ := g'.putHeld rfl (l := w.heap.size) (o := .deferred (some [])) (o' := .deferred none) (if_pos rfl) hWw rfl rfl
    have q3 : Gam E ⟨W, none, none, [], fun _ => none⟩ ro0 S' { a' with defers := [] } (w'.putObj w.heap.size (.deferred none)) ι' ro' :=
      q1.turn rfl (H := fun _ => none) (dl := []) rfl rfl rfl rfl rfl (Nat.le_refl _) (fun _ _ => .inr rfl) (fun _ _ _ => rfl) (fun k o hk => by cases hk)
    have q4 := endK_sound nc' q3 hk
    have fin : (∃ v, (results Tryd.f6 a'.tmps).run Tryd.prog (w'.putObj w.heap.size (.deferred none)) = .ok v (w'.putObj w.heap.size (.deferred none)) ∧ ∃ u, Ending.returned v = .returned u ∧ Below W.heap.size W (w'.putObj w.heap.size (.deferred none)) ∧ RetRep E (w'.putObj w.heap.size (.deferred none)) (fun k o => ro0 k o ∨ (W.heap.size ≤ k ∧ k < (w'.putObj w.heap.size (.deferred none)).heap.size)) u res) →
        LeavesInM Fence.wide 0 Tryd.prog Tryd.f6 a'.tmps (fun e w' => ∃ v, e = .returned v ∧ Below W.heap.size W w' ∧ RetRep E w' (fun k o => ro0 k o ∨ (W.heap.size ≤ k ∧ k < w'.heap.size)) v res) a'.defers .returning w' := fun h => by
      rw [hdf]
      exact ⟨by simp, .inl ⟨w.heap.size, _, rfl, run_takeDeferred hdD, h⟩⟩
    cases e with
    | normal => exact fin q4.2
    | ret => exact fin q4.2
    | exit id => cases hk
    | goto l => cases hk
end
end Go.Proofs.YtinangndhcbjbaaDoor.Rf
namespace Go.Proofs.YtinangndhcbjbaaDoor.Rf
open Go Go.RowKit Go.Sort Go.Proofs.YtinangndhcbjbaaDoor.Mir
section
noncomputable def tO : Oracle E := orac [(nproject_id, nproject_W), (nservice_id, nservice_W), (dcount_id, dcount_W)] [] [] []
theorem tO_ok : OracleOk E tO := orac_ok (.cons nproject_ok (.cons nservice_ok (.cons dcount_ok .nil))) .nil .nil .nil
def NEG : List (TV E) := [⟨.str, []⟩, ⟨.str, []⟩, ⟨.int, 0⟩, ⟨.bool, false⟩]
theorem tail0 (rest : List UInt8) : evU tO {} 1 tailC ⟨53, [(6, .ptr 0 0)], mob [] rest 113, 200⟩ (endK Tryd.f6) = some NEG := by kernel_rfl
theorem tail1 (p rest : List UInt8) : evU tO {} 1 tailC ⟨53, [(6, .ptr 0 0)], mob [p] rest 113, 200⟩ (endK Tryd.f6) = bif (okL1 p || !(!true)) then some NEG else none := by kernel_rfl
theorem tail2 (p q rest : List UInt8) : evU tO {} 1 tailC ⟨53, [(6, .ptr 0 0)], mob [p, q] rest 113, 200⟩ (endK Tryd.f6) = bif (okL1 p || !(!true)) then (bif (okL1 q || !(!true)) then some NEG else none) else none := by kernel_rfl
theorem tail3 (p q r rest : List UInt8) : evU tO {} 1 tailC ⟨53, [(6, .ptr 0 0)], mob [p, q, r] rest 113, 200⟩ (endK Tryd.f6) =
    bif (okL1 p || !(!false)) then (bif (okL1 q || !(!(!(ofV p1B p2B p)))) then (bif (bif !(ofV p1B p2B p) then true else !(ofV s1B s2B q)) then some NEG else
      (bif pokW r 8 then (bif (bif (pwholeE r 8 != 0) then true else (pwholeV r 8 == 0)) then some NEG else some [⟨.str, p⟩, ⟨.str, q⟩, ⟨.int, pwholeV r 8⟩, ⟨.bool, true⟩]) else none)) else none) else none := by kernel_rfl
theorem tail4 (p q r t : List UInt8) (l : List (List UInt8)) (rest : List UInt8) : evU tO {} 1 tailC ⟨53, [(6, .ptr 0 0)], mob (p :: q :: r :: t :: l) rest 113, 200⟩ (endK Tryd.f6) =
    bif ((decide ((0 : Int) ≤ 0) && decide ((0 : Int) < ((p :: q :: r :: t :: l).length : Int))) || !(!true)) then (bif (okL1 p || !(!true)) then (bif ((decide ((0 : Int) ≤ 1) && decide ((1 : Int) < ((p :: q :: r :: t :: l).length : Int))) || !(!true)) then (bif (okL1 q || !(!true)) then some NEG else none) else none) else none) else none := by kernel_rfl
end
end Go.Proofs.YtinangndhcbjbaaDoor.Rf
namespace Go.Proofs.YtinangndhcbjbaaDoor.Rf
open Go Go.RowKit Go.Sort Go.Proofs.YtinangndhcbjbaaDoor.Mir
def spOk (p q r : List UInt8) : Bool := nameV badP p && nameV badS q && (cntE r 8 == 0) && !(cntV r 8 == 0)
def spR : List (List UInt8) → List UInt8 × List UInt8 × Int × Bool
  | [p, q, r] => bif spOk p q r then (p, q, cntV r 8, true) else ([], [], 0, false)
  | _ => ([], [], 0, false)
def spA (s : List UInt8) : List UInt8 := (spR (splP s)).1
def spB (s : List UInt8) : List UInt8 := (spR (splP s)).2.1
def spN (s : List UInt8) : Int := (spR (splP s)).2.2.1
def spO (s : List UInt8) : Bool := (spR (splP s)).2.2.2
theorem splP_len : ∀ (s x : List UInt8), x ∈ splP s → x.length ≤ s.length
  | [], x, h => by simp [splP] at h; subst h; simp
  | c :: r, x, h => by
    rw [splP_cons] at h
    cases hc : c == 47 with
    | true =>
      rw [hc] at h
      simp only [cond_true, List.mem_cons] at h
      rcases h with rfl | h
      · simp
      · have := splP_len r x h; simp only [List.length_cons]; omega
    | false =>
      rw [hc] at h
      simp only [cond_false] at h
      have ih := splP_len r
      revert h ih
      cases splP r with
      | nil => intro h _; simp at h; subst h; simp
      | cons a t =>
        intro h ih
        simp only [List.mem_cons] at h
        rcases h with rfl | h
        · have := ih a List.mem_cons_self; simp only [List.length_cons]; omega
        · have := ih x (List.mem_cons_of_mem _ h); simp only [List.length_cons]; omega
def spT (x : List UInt8 × List UInt8 × Int × Bool) : List (TV E) := [⟨.str, x.1⟩, ⟨.str, x.2.1⟩, ⟨.int, x.2.2.1⟩, ⟨.bool, x.2.2.2⟩]
theorem tail_all (l : List (List UInt8)) (rest : List UInt8) (hl : ∀ x ∈ l, x.length ≤ 1000000) : evU tO {} 1 tailC ⟨53, [(6, .ptr 0 0)], mob l rest 113, 200⟩ (endK Tryd.f6) = some (spT (spR l)) := by
  match l, hl with
  | [], _ => exact tail0 rest
  | [p], hl =>
    rw [tail1, okL1_iff.2 (hl p (by simp))]; rfl
  | [p, q], hl =>
    rw [tail2, okL1_iff.2 (hl p (by simp)), okL1_iff.2 (hl q (by simp))]; rfl
  | [p, q, r], hl =>
    rw [tail3, okL1_iff.2 (hl p (by simp)), okL1_iff.2 (hl q (by simp)), pokW_iff.2 ⟨⟨hl r (by simp), by omega⟩, by omega⟩, project_eq, service_eq, countV_eq r (by omega), countE_eq r (by omega)]
    simp only [Bool.true_or, cond_true, spR, spOk]
    cases nameV badP p <;> cases nameV badS q <;> cases h1 : cntE r 8 == 0 <;> cases h2 : cntV r 8 == 0 <;> simp [bne, h1] <;> rfl
  | p :: q :: r :: t :: l, hl =>
    rw [tail4, okL1_iff.2 (hl p (by simp)), okL1_iff.2 (hl q (by simp)), dT (show (0 : Int) < ((p :: q :: r :: t :: l).length : Int) by simp only [List.length_cons]; omega), dT (show (1 : Int) < ((p :: q :: r :: t :: l).length : Int) by simp only [List.length_cons]; omega)]
    rfl
theorem fn14_kit {f : FuncId} {a0 t0 t1 t2 t3 : E.Ty} {ok : E.Den a0 → Bool} {F0 : E.Den a0 → E.Den t0} {F1 : E.Den a0 → E.Den t1} {F2 : E.Den a0 → E.Den t2} {F3 : E.Den a0 → E.Den t3} (ex : ∃ fn, Tryd.prog.funcs[f]? = some fn ∧ (fn.name == "runtime.NumGoroutine") = false ∧ fn.body.isNone = false)
    (h : ∀ x, ok x = true → CallsOk E f [⟨a0, x⟩] [⟨t0, F0 x⟩, ⟨t1, F1 x⟩, ⟨t2, F2 x⟩, ⟨t3, F3 x⟩]) : FnOk E f (fn14 a0 t0 t1 t2 t3 ok F0 F1 F2 F3) :=
  ⟨ex, fun args r hr => by
    unfold fn14 at hr
    split at hr
    · split at hr
      · rename_i x hx
        injection hr with hr
        injection hr with h1 h2
        subst h2
        rw [castV_eq hx]
        exact h _ h1
      · cases hr
    · cases hr⟩
noncomputable def psplit_W : FnW E := fn14 (E := E) .str .str .str .int .bool okL1 spA spB spN spO
def psplit_id : FuncId := 6
theorem psplit_ok : FnOk E psplit_id psplit_W := fn14_kit ⟨Tryd.f6, by kernel_rfl, by kernel_rfl, by kernel_rfl⟩ fun s hk => by
  have hs := okL1_iff.1 hk
  exact split_of tO tO_ok s hs _ fun rest => tail_all (splP s) rest fun x hx => Nat.le_trans (splP_len s x hx) hs
end Go.Proofs.YtinangndhcbjbaaDoor.Rf
namespace Go.Proofs.YtinangndhcbjbaaDoor.Rf
open Go Go.RowKit Go.Sort Go.Proofs.YtinangndhcbjbaaDoor.Mir
end Go.Proofs.YtinangndhcbjbaaDoor.Rf
namespace Go.Proofs.YtinangndhcbjbaaDoor.Rf
open Go Go.RowKit Go.Sort Go.Proofs.YtinangndhcbjbaaDoor.Mir
theorem str_of {w : World} {ro : Nat → Nat → Prop} {v : Value} {s : List UInt8} (h : TRep E w ro v Ty.str s) : v = .string ⟨s.toArray⟩ := by
  rcases h with ⟨ha, _⟩ | ⟨_, d, hd, hr⟩
  · cases ha
  · have hd : ([.str s] : List (DVal E.Den)) = [d] := hd
    injection hd with hd _
    subst hd
    cases hr; rfl
theorem int_of {w : World} {ro : Nat → Nat → Prop} {v : Value} {n : Int} (h : TRep E w ro v Ty.int n) : v = .int .i64 n := by
  rcases h with ⟨ha, _⟩ | ⟨_, d, hd, hr⟩
  · cases ha
  · have hd : ([.int .i64 n] : List (DVal E.Den)) = [d] := hd
    injection hd with hd _
    subst hd
    cases hr; rfl
def okJn (l : List (List UInt8)) (sep : List UInt8) : Bool := decide (l.length ≤ 1000000) && decide ((Lib.join l sep).length ≤ 1000000000)
noncomputable def sjoin_W : FnW E := fn2 (E := E) .l_str .str .str okJn Lib.join
def sjoin_id : FuncId := 33
theorem sjoin_ok : FnOk E sjoin_id sjoin_W := fn2_kit ⟨Tryd.f33, by kernel_rfl, by kernel_rfl, by kernel_rfl⟩ fun l sep hk => by
  simp only [okJn, Bool.and_eq_true, decide_eq_true_eq] at hk
  obtain ⟨k1, k2⟩ := hk
  intro w ro vals hargs hrolt
  match vals, hargs with
  | [u, v], ⟨h1, h2, _⟩ =>
    rw [str_of h2]
    have hd : DRep E w ro u (.slice .str l) := by
      rcases h1 with ⟨ha, _⟩ | ⟨_, d, hd, hr⟩
      · cases ha
      · have hd : ([.slice .str l] : List (DVal E.Den)) = [d] := hd
        injection hd with hd _
        subst hd
        exact hr
    have none_ : ∀ (a : Option Addr) (c : Nat), l = [] → Calls Tryd.prog 33 [.slice a 0 c, .string ⟨sep.toArray⟩].toArray w fun e w' => ∃ v, e = .returned v ∧ Below w.heap.size w w' ∧ RetRep E w' (fun k o => ro k o ∨ (w.heap.size ≤ k ∧ k < w'.heap.size)) v [⟨.str, Lib.join l sep⟩] := fun a c hl => by
      subst hl
      refine (Tryd.strings_Join_none a c ⟨sep.toArray⟩ w).mono fun e w' he => ?_
      obtain ⟨he, rfl⟩ := he
      exact ⟨_, he, Below.refl _ _, .inr ⟨rfl, .str [], rfl, .str []⟩⟩
    obtain ⟨ad, cap, rfl, hs⟩ := hd.slice_inv
    rcases hs with rfl | ⟨g, off, rfl, hc, f, f1, f2⟩
    · exact none_ _ _ rfl
    · cases l with
      | nil => exact none_ _ _ rfl
      | cons x0 t =>
        have hcell : ∀ (i : Nat) x, (x0 :: t)[i]? = some x → ro g (off + i) ∧ w.cell? ⟨g, off + i, none⟩ = some (.string ⟨x.toArray⟩) := fun i x hx => by
          have g1 := f1 i x 0 (.str x) hx rfl
          have g2 := f2 i x 0 (.str x) hx rfl
          have e1 : f i 0 = .string ⟨x.toArray⟩ := by generalize f i 0 = u at g2; cases g2; rfl
          rw [show E.size .str = 1 from rfl, Nat.mul_one, Nat.add_zero, e1] at g1
          exact g1
        have hmap : (((x0 :: t).map fun x => (⟨x.toArray⟩ : ByteArray)).map (·.data.toList)) = x0 :: t := by
          rw [List.map_map]
          conv => rhs; rw [← List.map_id (x0 :: t)]
          exact List.map_congr_left fun y _ => by simp
        have hj := Tryd.strings_Join g off cap ((x0 :: t).map fun x => ⟨x.toArray⟩) ⟨sep.toArray⟩ w (fun j x hx => by
          rw [List.getElem?_map] at hx
          cases hq : (x0 :: t)[j]? with
          | none => rw [hq] at hx; cases hx
          | some y => rw [hq] at hx; cases hx; exact (hcell j y hq).2) (hrolt g _ (hcell 0 x0 rfl).1) (by rw [List.length_map]; omega) (by rw [List.length_map]; exact hc) (by rw [hmap]; show (Lib.join (x0 :: t) sep).length ≤ _; omega)
        rw [hmap, List.length_map] at hj
        refine hj.mono fun e w' he => ?_
        obtain ⟨he, hb⟩ := he
        exact ⟨_, he, hb, .inr ⟨rfl, .str (Lib.join (x0 :: t) sep), rfl, .str _⟩⟩
def jnV (l : List (List UInt8)) : List UInt8 := Lib.join l [47]
def okJ (l : List (List UInt8)) : Bool := okJn l [47]
noncomputable def pjoin_W : FnW E := fn1 (E := E) .l_str .str okJ jnV
def pjoin_id : FuncId := 18
noncomputable def pjoin_O : Oracle E := orac [(33, sjoin_W)] [] [] []
noncomputable def pjoin_H : Hint E := Hint.mk [] [] [] [] [] 5 []
noncomputable def pjoin_t (_G : Nat → ASt E → Option (List (TV E))) (x0 : List (List UInt8)) : Option (List (TV E)) :=
  bif (okJn x0 [47]) then some [⟨.str, (Lib.join x0 ([47] : List UInt8))⟩] else none
theorem pjoin_e (G : Nat → ASt E → Option (List (TV E))) (x0 : List (List UInt8)) : runE pjoin_O pjoin_H G Tryd.f18 [⟨.l_str, x0⟩] = pjoin_t G x0 := by kernel_rfl
theorem pjoin_f : Tryd.prog.funcs[18]? = some Tryd.f18 := by kernel_rfl
theorem pjoin_n : (Tryd.f18.name == "runtime.NumGoroutine") = false := by kernel_rfl
theorem pjoin_b : Tryd.f18.body.isNone = false := by kernel_rfl
theorem pjoin_hO : OracleOk E pjoin_O := orac_ok (.cons sjoin_ok .nil) .nil .nil .nil
theorem pjoin_ok_of (h : ∀ (x0 : List (List UInt8)), okJ x0 = true → pjoin_t (Gr E Tryd.f18 [⟨.str, jnV x0⟩]) x0 = some [⟨.str, jnV x0⟩]) : FnOk E pjoin_id pjoin_W := fn1_ok pjoin_hO mix pjoin_f pjoin_n pjoin_b (fun x0 hk => (pjoin_e _ x0).trans (h x0 hk))
theorem pjoin_ok : FnOk E pjoin_id pjoin_W := pjoin_ok_of fun l hk => by
  have hk' : okJn l [47] = true := hk
  simp only [pjoin_t, hk', cond_true, jnV]
def nmV (p s : List UInt8) (n : Int) : List UInt8 := jnV [p, s, textV n]
def kpV (p v : List UInt8) : List UInt8 := jnV [p, v]
def okNm (p s : List UInt8) (n : Int) : Bool := okL1 p && okL1 s && okI n
def okKp (p s : List UInt8) : Bool := okL1 p && okL1 s
theorem join2 (p v : List UInt8) : jnV [p, v] = p ++ [47] ++ v := by simp [jnV, Lib.join]
theorem join3 (p v t : List UInt8) : jnV [p, v, t] = p ++ [47] ++ v ++ [47] ++ t := by simp [jnV, Lib.join]
theorem okJ2 {p v : List UInt8} (h1 : p.length ≤ 1000000) (h2 : v.length ≤ 1000000) : okJ [p, v] = true := by
  unfold okJ okJn
  have e : (Lib.join [p, v] [47]).length ≤ 1000000000 := by
    have := join2 p v
    unfold jnV at this
    rw [this]; simp; omega
  rw [dT e]; rfl
theorem okJ3 {p v t : List UInt8} (h1 : p.length ≤ 1000000) (h2 : v.length ≤ 1000000) (h3 : t.length ≤ 1000000) : okJ [p, v, t] = true := by
  unfold okJ okJn
  have e : (Lib.join [p, v, t] [47]).length ≤ 1000000000 := by
    have := join3 p v t
    unfold jnV at this
    rw [this]; simp; omega
  rw [dT e]; rfl
noncomputable def pname_W : FnW E := fn3 (E := E) .str .str .int .str okNm nmV
def pname_id : FuncId := 8
noncomputable def pname_O : Oracle E := orac [(19, dgtext_W), (18, pjoin_W)] [] [] []
noncomputable def pname_H : Hint E := Hint.mk [] [] [] [] [] 5 []
noncomputable def pname_t (_G : Nat → ASt E → Option (List (TV E))) (x0 x1 : List UInt8) (x2 : Int) : Option (List (TV E)) :=
  bif (okI x2) then (bif (okJ [x0, x1, (textV x2)]) then some [⟨.str, (jnV [x0, x1, (textV x2)])⟩] else none) else none
theorem pname_e (G : Nat → ASt E → Option (List (TV E))) (x0 : List UInt8) (x1 : List UInt8) (x2 : Int) : runE pname_O pname_H G Tryd.f8 [⟨.str, x0⟩, ⟨.str, x1⟩, ⟨.int, x2⟩] = pname_t G x0 x1 x2 := by kernel_rfl
theorem pname_f : Tryd.prog.funcs[8]? = some Tryd.f8 := by kernel_rfl
theorem pname_n : (Tryd.f8.name == "runtime.NumGoroutine") = false := by kernel_rfl
theorem pname_b : Tryd.f8.body.isNone = false := by kernel_rfl
theorem pname_hO : OracleOk E pname_O := orac_ok (.cons dgtext_ok (.cons pjoin_ok .nil)) .nil .nil .nil
theorem pname_ok_of (h : ∀ (x0 : List UInt8) (x1 : List UInt8) (x2 : Int), okNm x0 x1 x2 = true → pname_t (Gr E Tryd.f8 [⟨.str, nmV x0 x1 x2⟩]) x0 x1 x2 = some [⟨.str, nmV x0 x1 x2⟩]) : FnOk E pname_id pname_W := fn3_ok pname_hO mix pname_f pname_n pname_b (fun x0 x1 x2 hk => (pname_e _ x0 x1 x2).trans (h x0 x1 x2 hk))
noncomputable def pkept_W : FnW E := fn2 (E := E) .str .str .str okKp kpV
def pkept_id : FuncId := 10
noncomputable def pkept_O : Oracle E := orac [(18, pjoin_W)] [] [] []
noncomputable def pkept_H : Hint E := Hint.mk [] [] [] [] [] 5 []
noncomputable def pkept_t (_G : Nat → ASt E → Option (List (TV E))) (x0 x1 : List UInt8) : Option (List (TV E)) :=
  bif (okJ [x0, x1]) then some [⟨.str, (jnV [x0, x1])⟩] else none
theorem pkept_e (G : Nat → ASt E → Option (List (TV E))) (x0 : List UInt8) (x1 : List UInt8) : runE pkept_O pkept_H G Tryd.f10 [⟨.str, x0⟩, ⟨.str, x1⟩] = pkept_t G x0 x1 := by kernel_rfl
theorem pkept_f : Tryd.prog.funcs[10]? = some Tryd.f10 := by kernel_rfl
theorem pkept_n : (Tryd.f10.name == "runtime.NumGoroutine") = false := by kernel_rfl
theorem pkept_b : Tryd.f10.body.isNone = false := by kernel_rfl
theorem pkept_hO : OracleOk E pkept_O := orac_ok (.cons pjoin_ok .nil) .nil .nil .nil
theorem pkept_ok_of (h : ∀ (x0 : List UInt8) (x1 : List UInt8), okKp x0 x1 = true → pkept_t (Gr E Tryd.f10 [⟨.str, kpV x0 x1⟩]) x0 x1 = some [⟨.str, kpV x0 x1⟩]) : FnOk E pkept_id pkept_W := fn2_ok pkept_hO mix pkept_f pkept_n pkept_b (fun x0 x1 hk => (pkept_e _ x0 x1).trans (h x0 x1 hk))
theorem okNm_iff {p s : List UInt8} {n : Int} : okNm p s n = true ↔ (p.length ≤ 1000000 ∧ s.length ≤ 1000000) ∧ okI n = true := by simp [okNm, okL1]
theorem okKp_iff {p s : List UInt8} : okKp p s = true ↔ p.length ≤ 1000000 ∧ s.length ≤ 1000000 := by simp [okKp, okL1]
theorem pname_ok : FnOk E pname_id pname_W := pname_ok_of fun p s n hk => by
  obtain ⟨⟨h1, h2⟩, h3⟩ := okNm_iff.1 hk
  have := textV_len n
  simp only [pname_t, h3, okJ3 h1 h2 (show (textV n).length ≤ 1000000 by omega), cond_true, nmV]
theorem pkept_ok : FnOk E pkept_id pkept_W := pkept_ok_of fun p s hk => by
  obtain ⟨h1, h2⟩ := okKp_iff.1 hk
  simp only [pkept_t, okJ2 h1 h2, cond_true, kpV]
noncomputable def lawake_W : FnW E := fn0 (E := E) .bool true true
def lawake_id : FuncId := 5
noncomputable def lawake_O : Oracle E := orac [(10, pkept_W), (8, pname_W), (6, psplit_W)] [] [] []
noncomputable def lawake_H : Hint E := Hint.mk [] [] [] [] [] 5 []
noncomputable def lawake_t (_G : Nat → ASt E → Option (List (TV E)))  : Option (List (TV E)) :=
  bif (okL1 [112, 47, 119, 101, 98, 47, 49]) then (bif (okNm [112] [119, 101, 98] 1) then (bif ((okKp [112] [100, 101, 102, 97, 117, 108, 116]) || !((nmV [112] [119, 101, 98] 1) == ([112, 47, 119, 101, 98, 47, 49] : List UInt8))) then some [⟨.bool, (bif (bif (bif (bif (bif ((nmV [112] [119, 101, 98] 1) == ([112, 47, 119, 101, 98, 47, 49] : List UInt8)) then ((kpV [112] [100, 101, 102, 97, 117, 108, 116]) == ([112, 47, 100, 101, 102, 97, 117, 108, 116] : List UInt8)) else false) then ((spA [112, 47, 119, 101, 98, 47, 49]) == ([112] : List UInt8)) else false) then ((spB [112, 47, 119, 101, 98, 47, 49]) == ([119, 101, 98] : List UInt8)) else false) then ((spN [112, 47, 119, 101, 98, 47, 49]) == (1 : Int)) else false) then (spO [112, 47, 119, 101, 98, 47, 49]) else false)⟩] else none) else none) else none
theorem lawake_e (G : Nat → ASt E → Option (List (TV E)))  : runE lawake_O lawake_H G Tryd.f5 [] = lawake_t G  := by kernel_rfl
theorem lawake_f : Tryd.prog.funcs[5]? = some Tryd.f5 := by kernel_rfl
theorem lawake_n : (Tryd.f5.name == "runtime.NumGoroutine") = false := by kernel_rfl
theorem lawake_b : Tryd.f5.body.isNone = false := by kernel_rfl
theorem lawake_hO : OracleOk E lawake_O := orac_ok (.cons pkept_ok (.cons pname_ok (.cons psplit_ok .nil))) .nil .nil .nil
theorem lawake_ok_of (h : lawake_t (Gr E Tryd.f5 [⟨.bool, true ⟩])  = some [⟨.bool, true ⟩]) : FnOk E lawake_id lawake_W := fn0_ok lawake_hO mix lawake_f lawake_n lawake_b (fun _ => (lawake_e _).trans h)
theorem lawake_ok : FnOk E lawake_id lawake_W := lawake_ok_of (by kernel_rfl)
end Go.Proofs.YtinangndhcbjbaaDoor.Rf
namespace Go.Proofs.YtinangndhcbjbaaDoor.Rf
open Go Go.RowKit Go.Sort Go.Proofs.YtinangndhcbjbaaDoor.Mir
def fn6 {P : Program} {E : Env P} (a b c d e g t : E.Ty) (ok : E.Den a → E.Den b → E.Den c → E.Den d → E.Den e → E.Den g → Bool) (F : E.Den a → E.Den b → E.Den c → E.Den d → E.Den e → E.Den g → E.Den t) : FnW E
  | [x0, x1, x2, x3, x4, x5] => match castV a x0, castV b x1, castV c x2, castV d x3, castV e x4, castV g x5 with
    | some x0, some x1, some x2, some x3, some x4, some x5 => some (ok x0 x1 x2 x3 x4 x5, [⟨t, F x0 x1 x2 x3 x4 x5⟩])
    | _, _, _, _, _, _ => none
  | _ => none
theorem fn6_ok {P : Program} {E : Env P} {a b c d e g t : E.Ty} {ok : E.Den a → E.Den b → E.Den c → E.Den d → E.Den e → E.Den g → Bool} {F : E.Den a → E.Den b → E.Den c → E.Den d → E.Den e → E.Den g → E.Den t} {O : Oracle E} {masks : Hint E} {f : FuncId} {fn : Func} (hO : OracleOk E O) (hmix : P.follows .mixedOrders = true) (hf : P.funcs[f]? = some fn) (hn : (fn.name == "runtime.NumGoroutine") = false) (hb : fn.body.isNone = false)
    (h : ∀ x0 x1 x2 x3 x4 x5, ok x0 x1 x2 x3 x4 x5 = true → runE O masks (Gr E fn [⟨t, F x0 x1 x2 x3 x4 x5⟩]) fn [⟨a, x0⟩, ⟨b, x1⟩, ⟨c, x2⟩, ⟨d, x3⟩, ⟨e, x4⟩, ⟨g, x5⟩] = some [⟨t, F x0 x1 x2 x3 x4 x5⟩]) : FnOk E f (fn6 a b c d e g t ok F) := by
  refine fnOk_of (masks := masks) hO hmix hf hn hb fun args res hr => ?_
  unfold fn6 at hr
  split at hr
  · split at hr
    · rename_i h0 h1 h2 h3 h4 h5
      injection hr with hr
      injection hr with k1 k2
      subst k2
      rw [castV_eq h0, castV_eq h1, castV_eq h2, castV_eq h3, castV_eq h4, castV_eq h5]
      exact h _ _ _ _ _ _ k1
    · cases hr
  · cases hr
theorem nm_no {f : UInt8 → Bool → Bool} (h47 : ∀ b, f 47 b = true) : ∀ (s : List UInt8) (b : Bool), nmL f s b = true → (47 : UInt8) ∉ s
  | [], _, _ => by simp
  | c :: t, b, h => by
    unfold nmL at h
    cases hf : f c b with
    | true => rw [hf] at h; cases h
    | false =>
      rw [hf, cond_false] at h
      have := nm_no h47 t false h
      intro hm
      rcases List.mem_cons.1 hm with e | e
      · rw [← e, h47] at hf; cases hf
      · exact this e
theorem name_no {f : UInt8 → Bool → Bool} (h47 : ∀ b, f 47 b = true) {s : List UInt8} (h : nameV f s = true) : (47 : UInt8) ∉ s ∧ s.length ≤ 24 := by
  unfold nameV at h
  by_cases h1 : (s.length : Int) < 1
  · rw [dT h1] at h; cases h
  · by_cases h2 : (24 : Int) < (s.length : Int)
    · rw [dF h1, dT h2] at h; cases h
    · rw [dF h1, dF h2] at h
      exact ⟨nm_no h47 s true h, by omega⟩
theorem badP47 : ∀ b, badP 47 b = true := by decide
theorem badS47 : ∀ b, badS 47 b = true := by decide
theorem splP_app : ∀ (x y : List UInt8), (47 : UInt8) ∉ x → splP (x ++ 47 :: y) = x :: splP y
  | [], y, _ => rfl
  | c :: t, y, h => by
    have hc : (c == 47) = false := by
      cases hq : c == 47 with
      | false => rfl
      | true => exact absurd (by have : c = 47 := by simpa using hq
                                 rw [this]; exact List.mem_cons_self) h
    rw [List.cons_append, splP_cons, hc, splP_app t y (fun hm => h (List.mem_cons_of_mem _ hm))]
    rfl
theorem splP_one : ∀ (x : List UInt8), (47 : UInt8) ∉ x → splP x = [x]
  | [], _ => rfl
  | c :: t, h => by
    have hc : (c == 47) = false := by
      cases hq : c == 47 with
      | false => rfl
      | true => exact absurd (by have : c = 47 := by simpa using hq
                                 rw [this]; exact List.mem_cons_self) h
    rw [splP_cons, hc, splP_one t (fun hm => h (List.mem_cons_of_mem _ hm))]
    rfl
theorem tx18 {n : Int} (h1 : ¬ n < 1) (h2 : ¬ 8 < n) : (47 : UInt8) ∉ textV n ∧ (textV n).length ≤ 2 ∧ cntV (textV n) 8 = n ∧ cntE (textV n) 8 = 0 := by
  have : n = 1 ∨ n = 2 ∨ n = 3 ∨ n = 4 ∨ n = 5 ∨ n = 6 ∨ n = 7 ∨ n = 8 := by omega
  rcases this with rfl | rfl | rfl | rfl | rfl | rfl | rfl | rfl <;> decide +kernel
theorem spl_nm {p s : List UInt8} {n : Int} (hp : nameV badP p = true) (hs : nameV badS s = true) (h1 : ¬ n < 1) (h2 : ¬ 8 < n) : splP (nmV p s n) = [p, s, textV n] := by
  have e : nmV p s n = p ++ 47 :: (s ++ 47 :: textV n) := by simp [nmV, join3]
  rw [e, splP_app p _ (name_no badP47 hp).1, splP_app s _ (name_no badS47 hs).1, splP_one _ (tx18 h1 h2).1]
theorem spl_kp {p s : List UInt8} (hp : nameV badP p = true) (hs : nameV badS s = true) : splP (kpV p s) = [p, s] := by
  have e : kpV p s = p ++ 47 :: s := by simp [kpV, join2]
  rw [e, splP_app p _ (name_no badP47 hp).1, splP_one _ (name_no badS47 hs).1]
theorem sp_nm {p s : List UInt8} {n : Int} (hp : nameV badP p = true) (hs : nameV badS s = true) (h1 : ¬ n < 1) (h2 : ¬ 8 < n) : spR (splP (nmV p s n)) = (p, s, n, true) := by
  obtain ⟨_, _, h3, h4⟩ := tx18 h1 h2
  rw [spl_nm hp hs h1 h2]
  have : spOk p s (textV n) = true := by
    unfold spOk
    rw [hp, hs, h3, h4, eqF (show ¬ n = 0 by omega)]
    rfl
  simp only [spR, this, cond_true, h3]
theorem nm_eq {a b c d : List UInt8} {n m : Int} (ha : nameV badP a = true) (hb : nameV badP b = true) (hc : nameV badS c = true) (hd : nameV badS d = true) (n1 : ¬ n < 1) (n2 : ¬ 8 < n) (m1 : ¬ m < 1) (m2 : ¬ 8 < m) :
    (nmV a c n == nmV b d m) = (bif (bif (a == b) then (c == d) else false) then (n == m) else false) := by
  rw [Bool.eq_iff_iff]
  constructor
  · intro h
    have h := congrArg (fun x => spR (splP x)) (beq_iff_eq.1 h)
    simp only [sp_nm ha hc n1 n2, sp_nm hb hd m1 m2] at h
    cases h
    simp
  · intro h
    cases h1 : a == b <;> cases h2 : c == d <;> cases h3 : n == m <;> simp_all
theorem kp_eq {a b c d : List UInt8} (ha : nameV badP a = true) (hb : nameV badP b = true) (hc : nameV badS c = true) (hd : nameV badS d = true) : (kpV a c == kpV b d) = (bif (a == b) then (c == d) else false) := by
  rw [Bool.eq_iff_iff]
  constructor
  · intro h
    have h := congrArg splP (beq_iff_eq.1 h)
    rw [spl_kp ha hc, spl_kp hb hd] at h
    cases h
    simp
  · intro h
    cases h1 : a == b <;> cases h2 : c == d <;> simp_all
def okLaw2 (_ _ _ _ : List UInt8) (n m : Int) : Bool := okI n && okI m
noncomputable def lawa_W : FnW E := fn6 (E := E) .str .str .str .str .int .int .bool okLaw2 (fun _ _ _ _ _ _ => true)
def lawa_id : FuncId := 4
noncomputable def lawa_O : Oracle E := orac [(5, lawake_W), (11, rproject_W), (12, rservice_W), (10, pkept_W), (8, pname_W), (6, psplit_W)] [] [] []
noncomputable def lawa_H : Hint E := Hint.mk [] [] [] [] [] 5 []
noncomputable def lawa_t (_G : Nat → ASt E → Option (List (TV E))) (x0 x1 x2 x3 : List UInt8) (x4 x5 : Int) : Option (List (TV E)) :=
  bif (bif (bif (bif (bif (bif (bif (bif (!((nameV badP) x0)) then true else (!((nameV badP) x1))) then true else (!((nameV badS) x2))) then true else (!((nameV badS) x3))) then true else (decide (x4 < (1 : Int)))) then true else (decide ((8 : Int) < x4))) then true else (decide (x5 < (1 : Int)))) then true else (decide ((8 : Int) < x5))) then some [⟨.bool, true⟩] else (bif (okNm x0 x2 x4) then (bif (okL1 (nmV x0 x2 x4)) then (bif ((okNm x0 x2 x4) || !(bif (bif (bif (spO (nmV x0 x2 x4)) then ((spA (nmV x0 x2 x4)) == x0) else false) then ((spB (nmV x0 x2 x4)) == x2) else false) then ((spN (nmV x0 x2 x4)) == x4) else false)) then (bif ((okNm x1 x3 x5) || !(bif (bif (bif (spO (nmV x0 x2 x4)) then ((spA (nmV x0 x2 x4)) == x0) else false) then ((spB (nmV x0 x2 x4)) == x2) else false) then ((spN (nmV x0 x2 x4)) == x4) else false)) then (bif ((okKp x0 x2) || !(bif (bif (bif (bif (spO (nmV x0 x2 x4)) then ((spA (nmV x0 x2 x4)) == x0) else false) then ((spB (nmV x0 x2 x4)) == x2) else false) then ((spN (nmV x0 x2 x4)) == x4) else false) then (((nmV x0 x2 x4) == (nmV x1 x3 x5)) == (bif (bif (x0 == x1) then (x2 == x3) else false) then (x4 == x5) else false)) else false)) then (bif ((okKp x1 x3) || !(bif (bif (bif (bif (spO (nmV x0 x2 x4)) then ((spA (nmV x0 x2 x4)) == x0) else false) then ((spB (nmV x0 x2 x4)) == x2) else false) then ((spN (nmV x0 x2 x4)) == x4) else false) then (((nmV x0 x2 x4) == (nmV x1 x3 x5)) == (bif (bif (x0 == x1) then (x2 == x3) else false) then (x4 == x5) else false)) else false)) then some [⟨.bool, (bif (bif (bif (bif (bif (bif (spO (nmV x0 x2 x4)) then ((spA (nmV x0 x2 x4)) == x0) else false) then ((spB (nmV x0 x2 x4)) == x2) else false) then ((spN (nmV x0 x2 x4)) == x4) else false) then (((nmV x0 x2 x4) == (nmV x1 x3 x5)) == (bif (bif (x0 == x1) then (x2 == x3) else false) then (x4 == x5) else false)) else false) then (((kpV x0 x2) == (kpV x1 x3)) == (bif (x0 == x1) then (x2 == x3) else false)) else false) then true else false)⟩] else none) else none) else none) else none) else none) else none)
theorem lawa_e (G : Nat → ASt E → Option (List (TV E))) (x0 : List UInt8) (x1 : List UInt8) (x2 : List UInt8) (x3 : List UInt8) (x4 : Int) (x5 : Int) : runE lawa_O lawa_H G Tryd.f4 [⟨.str, x0⟩, ⟨.str, x1⟩, ⟨.str, x2⟩, ⟨.str, x3⟩, ⟨.int, x4⟩, ⟨.int, x5⟩] = lawa_t G x0 x1 x2 x3 x4 x5 := by kernel_rfl
theorem lawa_f : Tryd.prog.funcs[4]? = some Tryd.f4 := by kernel_rfl
theorem lawa_n : (Tryd.f4.name == "runtime.NumGoroutine") = false := by kernel_rfl
theorem lawa_b : Tryd.f4.body.isNone = false := by kernel_rfl
theorem lawa_hO : OracleOk E lawa_O := orac_ok (.cons lawake_ok (.cons rproject_ok (.cons rservice_ok (.cons pkept_ok (.cons pname_ok (.cons psplit_ok .nil)))))) .nil .nil .nil
theorem lawa_ok_of (h : ∀ (x0 : List UInt8) (x1 : List UInt8) (x2 : List UInt8) (x3 : List UInt8) (x4 : Int) (x5 : Int), okLaw2 x0 x1 x2 x3 x4 x5 = true → lawa_t (Gr E Tryd.f4 [⟨.bool, (fun _ _ _ _ _ _ => true) x0 x1 x2 x3 x4 x5⟩]) x0 x1 x2 x3 x4 x5 = some [⟨.bool, (fun _ _ _ _ _ _ => true) x0 x1 x2 x3 x4 x5⟩]) : FnOk E lawa_id lawa_W := fn6_ok lawa_hO mix lawa_f lawa_n lawa_b (fun x0 x1 x2 x3 x4 x5 hk => (lawa_e _ x0 x1 x2 x3 x4 x5).trans (h x0 x1 x2 x3 x4 x5 hk))
theorem lawa_ok : FnOk E lawa_id lawa_W := lawa_ok_of fun a b c d n m hk => by
  have hI : okI n = true ∧ okI m = true := by simpa [okLaw2] using hk
  simp only [lawa_t]
  cases ha : nameV badP a with
  | false => rfl
  | true =>
  cases hb : nameV badP b with
  | false => rfl
  | true =>
  cases hc : nameV badS c with
  | false => rfl
  | true =>
  cases hd : nameV badS d with
  | false => rfl
  | true =>
  by_cases n1 : n < 1
  · rw [dT n1]; rfl
  by_cases n2 : 8 < n
  · rw [dF n1, dT n2]; rfl
  by_cases m1 : m < 1
  · rw [dF n1, dF n2, dT m1]; rfl
  by_cases m2 : 8 < m
  · rw [dF n1, dF n2, dF m1, dT m2]; rfl
  have la := (name_no badP47 ha).2
  have lb := (name_no badP47 hb).2
  have lc := (name_no badS47 hc).2
  have ld := (name_no badS47 hd).2
  have lt := (tx18 n1 n2).2.1
  have e1 : okNm a c n = true := okNm_iff.2 ⟨⟨by omega, by omega⟩, hI.1⟩
  have e2 : okNm b d m = true := okNm_iff.2 ⟨⟨by omega, by omega⟩, hI.2⟩
  have e3 : okKp a c = true := okKp_iff.2 ⟨by omega, by omega⟩
  have e4 : okKp b d = true := okKp_iff.2 ⟨by omega, by omega⟩
  have e5 : okL1 (nmV a c n) = true := okL1_iff.2 (by simp [nmV, join3]; omega)
  have s1 := sp_nm ha hc n1 n2
  have f1 : spA (nmV a c n) = a := by unfold spA; rw [s1]
  have f2 : spB (nmV a c n) = c := by unfold spB; rw [s1]
  have f3 : spN (nmV a c n) = n := by unfold spN; rw [s1]
  have f4 : spO (nmV a c n) = true := by unfold spO; rw [s1]
  rw [dF n1, dF n2, dF m1, dF m2, e1, e2, e3, e4, e5, f1, f2, f3, f4, nm_eq ha hb hc hd n1 n2 m1 m2, kp_eq ha hb hc hd]
  simp only [Bool.not_true, cond_false, cond_true, Bool.true_or, beq_self_eq_true]
end Go.Proofs.YtinangndhcbjbaaDoor.Rf
namespace Go.Proofs.YtinangndhcbjbaaDoor.Mir
open Go Go.RowKit Go.Deep
def below (w : World) : Nat → Nat → Prop := fun k _ => k < w.heap.size
section
variable {P : Program} {E : Env P}
def Opens (E : Env P) (T : TypeId) (R : List (DVal E.Den) → Prop) : Prop :=
  ∀ {H : Type} (enc : TypeId × Value → H) (w : World) (base : Nat) (spare : Nat → Bool) (held : Bool) (fuel : Nat) (cs : List Value) (x : DataW H × List MemPlace), DataW.trod enc P w base spare held fuel T cs = some x →
    ∃ ds, R ds ∧ cs.length = ds.length ∧ ∀ (j : Nat) v d, cs[j]? = some v → ds[j]? = some d → DRep E w (below w) v d
def OpensT (E : Env P) (t : E.Ty) : Prop := Opens E (E.tid t) fun ds => ∃ x, ds = E.cells t x
theorem one_cell {w : World} {v : Value} {d : DVal E.Den} (h : DRep E w (below w) v d) : ∀ (j : Nat) u e, [v][j]? = some u → [d][j]? = some e → DRep E w (below w) u e := by
  intro j u e hu he
  cases j with
  | zero => simp at hu he; subst hu; subst he; exact h
  | succ j => simp at hu
theorem opens_int {T : TypeId} {k : IntKind} (hT : P.underlying T = some (.int k)) : Opens E T fun ds => ∃ n, ds = [.int k n] := by
  intro H enc w base spare held fuel cs x h
  obtain ⟨n, rfl, _, _⟩ := DataW.trod_int hT h
  exact ⟨[.int k n], ⟨n, rfl⟩, rfl, one_cell (.int k n)⟩
theorem opens_str {T : TypeId} (hT : P.underlying T = some .string) : Opens E T fun ds => ∃ s : List UInt8, ds = [.str s] ∧ s.length ≤ maxLen := by
  intro H enc w base spare held fuel cs x h
  obtain ⟨s, rfl, _, hs⟩ := DataW.trod_string hT h
  refine ⟨[.str s.data.toList], ⟨_, rfl, by rw [Array.length_toList]; exact hs⟩, rfl, one_cell ?_⟩
  have := DRep.str (E := E) (w := w) (ro := below w) s.data.toList
  simpa using this
theorem Opens.mono {T : TypeId} {R R' : List (DVal E.Den) → Prop} (h : Opens E T R) (hR : ∀ ds, R ds → R' ds) : Opens E T R' := by
  intro H enc w base spare held fuel cs x hx
  obtain ⟨ds, h1, h2⟩ := h enc w base spare held fuel cs x hx
  exact ⟨ds, hR ds h1, h2⟩
theorem arg_rep {H : Type} {enc : TypeId × Value → H} {w : World} {base : Nat} {spare : Nat → Bool} {held : Bool} {t : E.Ty} (ho : OpensT E t) {v : Value} {d : DataW H} {p : List MemPlace} (hsh : (E.agg t = true ∧ ∃ vs, v = .agg vs) ∨ (E.agg t = false ∧ v.cells = #[v]))
    (h : DataW.Trod enc P w base spare held (E.tid t) v d p) : ∃ x, TRep E w (below w) v t x := by
  obtain ⟨fuel, h⟩ := h
  obtain ⟨ds, ⟨x, rfl⟩, hl, hd⟩ := ho enc w base spare held fuel _ _ h
  refine ⟨x, ?_⟩
  rcases hsh with ⟨ha, vs, rfl⟩ | ⟨ha, hv⟩
  · exact .inl ⟨ha, vs, rfl, by simpa [Value.cells] using hl, fun j u e hu he => hd j u e (by simpa [Value.cells] using hu) he⟩
  · rw [hv] at hl hd
    obtain ⟨c, hc⟩ := single_of_len ((E.cells_len t x).trans (E.one t ha))
    refine .inr ⟨ha, c, hc, hd 0 v c rfl (by rw [hc]; rfl)⟩
end
end Go.Proofs.YtinangndhcbjbaaDoor.Mir
namespace Go.Proofs.YtinangndhcbjbaaDoor.Mir
open Go Go.RowKit Go.Deep
section
variable {P : Program} {E : Env P}
def OpensB (E : Env P) (b : Nat) (T : TypeId) (R : List (DVal E.Den) → Prop) : Prop :=
  ∀ {H : Type} (enc : TypeId × Value → H) (w : World) (base : Nat) (spare : Nat → Bool) (held : Bool) (fuel : Nat) (cs : List Value) (x : DataW H × List MemPlace), fuel < b → DataW.trod enc P w base spare held fuel T cs = some x →
    ∃ ds, R ds ∧ cs.length = ds.length ∧ ∀ (j : Nat) v d, cs[j]? = some v → ds[j]? = some d → DRep E w (below w) v d
theorem OpensB.mono {b : Nat} {T : TypeId} {R R' : List (DVal E.Den) → Prop} (h : OpensB E b T R) (hR : ∀ ds, R ds → R' ds) : OpensB E b T R' := fun enc w base spare held fuel cs x hfb hx => by
  obtain ⟨ds, h1, h2⟩ := h enc w base spare held fuel cs x hfb hx
  exact ⟨ds, hR ds h1, h2⟩
end
end Go.Proofs.YtinangndhcbjbaaDoor.Mir
namespace Go.Proofs.YtinangndhcbjbaaDoor.Rf
open Go Go.ChangeShapes Go.WideShapes Go.ChangeAt Go.RowKit Go.Proofs.YtinangndhcbjbaaDoor.Mir
theorem okWide_rng {P : Program} {w : World} {r : Reach} {base : Nat} {t : TypeId} {n : Int} (ht : P.underlying t = some (.int .i64)) (h : Value.okWide P w r base t (.int .i64 n)) : (-9223372036854775808 : Int) ≤ n ∧ n ≤ 9223372036854775807 := by
  simp only [Value.okWide, ht, Cell.okWide] at h
  simp [Cell.ok, ht, IntKind.has, IntKind.min, IntKind.max] at h
  simpa [IntKind.signed, IntKind.bits] using h
theorem opn_str : OpensT E .str := Opens.mono (E := E) (opens_str (T := 9) (by kernel_rfl)) fun _ ⟨n, h, _⟩ => ⟨n, h⟩
theorem opn_int : OpensT E .int := Opens.mono (E := E) (opens_int (T := 3) (k := .i64) (by kernel_rfl)) fun _ ⟨n, h⟩ => ⟨n, h⟩
theorem own : ownKnob Tryd.prog.godebug = none := by kernel_rfl
theorem laidOut : laidOutB Tryd.prog = true := by kernel_rfl
theorem ret_bool {w : World} {ro : Nat → Nat → Prop} {v : Value} {b : Bool} (h : RetRep E w ro v [⟨.bool, b⟩]) : v = .bool b := by
  rcases h with ⟨ha, _⟩ | ⟨_, c, hc, hd⟩
  · cases ha
  · have e : c = .bool b := by
      have : ([.bool b] : List (DVal E.Den)) = [c] := hc
      simpa using this.symm
    subst e
    cases hd
    rfl
set_option maxRecDepth 100000 in
theorem lifted (os : Os) (started : os.Started) (H : Type) (enc : TypeId × Value → H) :
    ReturnsInHanded {} Tryd.checked os 4 .any (fun w args => (Rows.stampApartSpec.pre enc Tryd.prog Tryd.f4 Rows.stampApartRow.domain false w args ∧ laidMetH Tryd.prog Rows.stampApartRow.laid w) ∧ sizedMet enc Tryd.prog Tryd.f4 (OpenSpec.ofChange Rows.stampApartSpec) false w args) (Rows.stampApartSpec.post enc Tryd.prog Tryd.f4 false true false false) := by
  refine returnsInHanded_of_change_and (C := Tryd.checked) (X := fun w _ => laidMetH Tryd.prog Rows.stampApartRow.laid w) (fun _ _ _ hh h => h.of_heap hh) own started (by kernel_rfl) Tryd.func4
    (ChangeSpec.witness_shaped (enc := enc) (C := Tryd.checked) (os := os) (X := fun w _ => laidMetH Tryd.prog Rows.stampApartRow.laid w) false (World.laidAll Tryd.prog os Rows.stampApartRow.laid) #[.string ⟨#[]⟩, .string ⟨#[]⟩, .string ⟨#[]⟩, .string ⟨#[]⟩, .int .i64 0, .int .i64 0] 8 (World.laidAll_os _ _ _)
      (World.shaped_of_ZipB (by kernel_rfl) (by kernel_rfl)) (by kernel_rfl) (by kernel_rfl) (by kernel_rfl)
      (by rw [MakeChecks.laidMetH_plain _ _ _ (by kernel_rfl)]; exact laidMet_laidAll _ (by kernel_rfl) (by kernel_rfl))) ?_
  intro W base args ds gs before hval0 hW _ _ hL _
  have hval : ∀ (j : Nat) t v, Tryd.f4.params[j]? = some t → args[j]? = some v → Value.okWide Tryd.prog W .any base t v := hval0
  have hW' := hW
  obtain ⟨p, q, hA0, hV, rfl, hfz, hnd⟩ := hW
  have hA : DataW.TrodAll enc Tryd.prog W 0 (fun _ => true) true Tryd.f4.params.toList args.toList ds p := hA0
  rw [Tryd.params4] at hA hval
  obtain ⟨v0, vs0, d0, ds0, p0, q0, hargs, rfl, rfl, h0, r0⟩ := trodAll_cons hA
  obtain ⟨v1, vs1, d1, ds1, p1, q1, rfl, rfl, rfl, h1, r1⟩ := trodAll_cons r0
  obtain ⟨v2, vs2, d2, ds2, p2, q2, rfl, rfl, rfl, h2, r2⟩ := trodAll_cons r1
  obtain ⟨v3, vs3, d3, ds3, p3, q3, rfl, rfl, rfl, h3, r3⟩ := trodAll_cons r2
  obtain ⟨v4, vs4, d4, ds4, p4, q4, rfl, rfl, rfl, h4, r4⟩ := trodAll_cons r3
  obtain ⟨v5, vs5, d5, ds5, p5, q5, rfl, rfl, rfl, h5, r5⟩ := trodAll_cons r4
  obtain ⟨rfl, rfl, rfl⟩ := trodAll_nil r5
  obtain rfl : args = #[v0, v1, v2, v3, v4, v5] := by cases args; simp_all
  obtain ⟨rfl, rfl⟩ := trodVars_none hV
  obtain ⟨s0, rfl⟩ := okWide_string Tryd.underlying9 (hval 0 9 v0 rfl rfl)
  obtain ⟨s1, rfl⟩ := okWide_string Tryd.underlying9 (hval 1 9 v1 rfl rfl)
  obtain ⟨s2, rfl⟩ := okWide_string Tryd.underlying9 (hval 2 9 v2 rfl rfl)
  obtain ⟨s3, rfl⟩ := okWide_string Tryd.underlying9 (hval 3 9 v3 rfl rfl)
  obtain ⟨n4, rfl⟩ := okWide_int Tryd.underlying3 (hval 4 3 v4 rfl rfl)
  obtain ⟨n5, rfl⟩ := okWide_int Tryd.underlying3 (hval 5 3 v5 rfl rfl)
  have lt0 : ∀ x ∈ p0, x.block < W.heap.size := by obtain ⟨m, hm⟩ := h0; exact DataW.trod_lt m _ _ _ hm
  have lt1 : ∀ x ∈ p1, x.block < W.heap.size := by obtain ⟨m, hm⟩ := h1; exact DataW.trod_lt m _ _ _ hm
  have lt2 : ∀ x ∈ p2, x.block < W.heap.size := by obtain ⟨m, hm⟩ := h2; exact DataW.trod_lt m _ _ _ hm
  have lt3 : ∀ x ∈ p3, x.block < W.heap.size := by obtain ⟨m, hm⟩ := h3; exact DataW.trod_lt m _ _ _ hm
  have lt4 : ∀ x ∈ p4, x.block < W.heap.size := by obtain ⟨m, hm⟩ := h4; exact DataW.trod_lt m _ _ _ hm
  have lt5 : ∀ x ∈ p5, x.block < W.heap.size := by obtain ⟨m, hm⟩ := h5; exact DataW.trod_lt m _ _ _ hm
  obtain ⟨x0, t0⟩ := arg_rep (E := E) (t := .str) opn_str (.inr ⟨rfl, rfl⟩) h0
  obtain ⟨x1, t1⟩ := arg_rep (E := E) (t := .str) opn_str (.inr ⟨rfl, rfl⟩) h1
  obtain ⟨x2, t2⟩ := arg_rep (E := E) (t := .str) opn_str (.inr ⟨rfl, rfl⟩) h2
  obtain ⟨x3, t3⟩ := arg_rep (E := E) (t := .str) opn_str (.inr ⟨rfl, rfl⟩) h3
  obtain ⟨x4, t4⟩ := arg_rep (E := E) (t := .int) opn_int (.inr ⟨rfl, rfl⟩) h4
  obtain ⟨x5, t5⟩ := arg_rep (E := E) (t := .int) opn_int (.inr ⟨rfl, rfl⟩) h5
  have rg4 := okWide_rng Tryd.underlying3 (hval 4 3 (.int .i64 n4) rfl rfl)
  have en4 : n4 = x4 := by have := int_of t4; injection this
  have ok4 : okI x4 = true := by rw [← en4]; simpa [okI] using (show (-9223372036854775808 : Int) ≤ n4 ∧ n4 ≤ 9223372036854775807 from rg4)
  have rg5 := okWide_rng Tryd.underlying3 (hval 5 3 (.int .i64 n5) rfl rfl)
  have en5 : n5 = x5 := by have := int_of t5; injection this
  have ok5 : okI x5 = true := by rw [← en5]; simpa [okI] using (show (-9223372036854775808 : Int) ≤ n5 ∧ n5 ≤ 9223372036854775807 from rg5)
  have okA : okLaw2 x0 x1 x2 x3 x4 x5 = true := by unfold okLaw2; simp only [ok4, ok5, Bool.and_self]
  clear hA0 hval0
  refine (lawa_ok.2 [⟨.str, x0⟩, ⟨.str, x1⟩, ⟨.str, x2⟩, ⟨.str, x3⟩, ⟨.int, x4⟩, ⟨.int, x5⟩] [⟨.bool, true⟩] (show some (okLaw2 x0 x1 x2 x3 x4 x5, [(⟨.bool, true⟩ : TV E)]) = some (true, _) by rw [okA]) W (below W) [_, _, _, _, _, _] ⟨t0, t1, t2, t3, t4, t5, trivial⟩ (fun _ _ h => h)).mono fun e W' ⟨v, he, bel, hret⟩ => ?_
  have hv := ret_bool hret
  subst hv
  subst he
  exact ⟨_, rfl, _, _, _, [], _, [], hW', trodAll_mk1 (shut_bool Tryd.underlying4 _),
    (trodAll_cons_mk (Below.trod laidOut (by kernel_rfl) (of_decide_eq_true (by kernel_rfl)) h0 bel lt0) (trodAll_cons_mk (Below.trod laidOut (by kernel_rfl) (of_decide_eq_true (by kernel_rfl)) h1 bel lt1) (trodAll_cons_mk (Below.trod laidOut (by kernel_rfl) (of_decide_eq_true (by kernel_rfl)) h2 bel lt2) (trodAll_cons_mk (Below.trod laidOut (by kernel_rfl) (of_decide_eq_true (by kernel_rfl)) h3 bel lt3) (trodAll_cons_mk (Below.trod laidOut (by kernel_rfl) (of_decide_eq_true (by kernel_rfl)) h4 bel lt4) (trodAll_cons_mk (Below.trod laidOut (by kernel_rfl) (of_decide_eq_true (by kernel_rfl)) h5 bel lt5) trodAll_mk0)))))), rfl, bel.frame _, fun h => by cases h⟩
theorem over : Rows.stampApartRow.holds Tryd.pinned (OpenSpec.ofChange Rows.stampApartSpec) :=
  OpenClaim.holds_of_wide 4 Tryd.f4 rfl rfl rfl rfl rfl rfl rfl ⟨rfl, rfl, rfl, rfl, rfl⟩ rfl rfl rfl rfl rfl (by kernel_rfl) Tryd.func4 (by kernel_rfl)
    (of_decide_eq_true (by kernel_rfl)) (by unfold Func.isWrapper; first | (rw [if_pos (by decide +kernel)]; kernel_rfl) | (rw [if_neg (by decide +kernel)]; exact ⟨rfl, rfl⟩))
    (fun os started H enc _ => lifted os started H enc)
theorem stampApart_proved : Rows.StampApartCardSaid :=
  Claim7.holds_tied_plain_at .later [] [.data, .pinned] true (true, "abd24e7bdfbce080315b2f457d0cc6bed7788707c74bda4b16115966c47d76ce") false over (fun _ h => by cases h) (by kernel_rfl) (fun _ h => by cases h) stampApart_row_tie rfl ⟨rfl, rfl⟩ (by kernel_rfl) rfl
    (fun f fn hf hfn => by
      obtain rfl : f = 4 := Option.some.inj ((show Tryd.prog.funcNamed "longshore/longshorelaw27.StampApart" = some 4 by kernel_rfl).symm.trans hf) |>.symm
      obtain rfl : fn = Tryd.f4 := (Option.some.inj (Tryd.func4.symm.trans hfn)).symm
      exact ⟨by kernel_rfl, fun j t ht => by
        rw [Tryd.params4] at ht
        have hm : t ∈ [9, 9, 9, 9, 3, 3] := by simpa using Array.mem_of_getElem? ht
        have hall : ([9, 9, 9, 9, 3, 3].all fun u => !Tryd.prog.wantsStandIn u) = true := by kernel_rfl
        exact (show Tryd.prog.wantsStandIn t = false by simpa using List.all_eq_true.1 hall t hm)⟩)
    (by kernel_rfl)
#print axioms stampApart_proved
end Go.Proofs.YtinangndhcbjbaaDoor.Rf
