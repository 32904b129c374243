/- The program's names of services and variables. -/
import Derived.Test.YtpmknebhacaocaaGreatDoorN3
namespace Go.Proofs.YtpmknebhacaocaaGreatDoor.Rf
open Go Go.RowKit Go.Sort Go.Proofs.YtpmknebhacaocaaGreatDoor.Mir
/-! ### Package name: names of services, and of variables -/
/-! ### Package name: bytes -/
def smallB (c : Int) : Bool := bif decide (97 ≤ c) then decide (c ≤ 122) else false
def numberB (c : Int) : Bool := bif decide (48 ≤ c) then decide (c ≤ 57) else false
def letterB (c : Int) : Bool := bif smallB c then true else (bif decide (65 ≤ c) then decide (c ≤ 90) else false)
noncomputable def nsmall_W : FnW E := fn1 (E := E) .byte .bool (fun _ => true) smallB
def nsmall_id : FuncId := 161
noncomputable def nsmall_O : Oracle E := orac [] [] [] []
noncomputable def nsmall_H : Hint E := Hint.mk [] [] [] [] []
noncomputable def nsmall_t (_G : Nat → ASt E → Option (List (TV E))) (x0 : Int) : Option (List (TV E)) :=
  some [⟨.bool, (bif (decide ((97 : Int) ≤ x0)) then (decide (x0 ≤ (122 : Int))) else false)⟩]
theorem nsmall_e (G : Nat → ASt E → Option (List (TV E))) (x0 : Int) : runE nsmall_O nsmall_H G Tryz.f161 [⟨.byte, x0⟩] = nsmall_t G x0 := by kernel_rfl
theorem nsmall_f : Tryz.prog.funcs[161]? = some Tryz.f161 := by kernel_rfl
theorem nsmall_n : (Tryz.f161.name == "runtime.NumGoroutine") = false := by kernel_rfl
theorem nsmall_b : Tryz.f161.body.isNone = false := by kernel_rfl
theorem nsmall_ex : ∃ fn, Tryz.prog.funcs[161]? = some fn ∧ (fn.name == "runtime.NumGoroutine") = false ∧ fn.body.isNone = false := ⟨Tryz.f161, nsmall_f, nsmall_n, nsmall_b⟩
theorem nsmall_hO : OracleOk E nsmall_O := orac_ok .nil .nil .nil .nil
theorem nsmall_ok_of (h : ∀ (x0 : Int), nsmall_t (Gr E Tryz.f161 [⟨.bool, smallB x0⟩]) x0 = some [⟨.bool, smallB x0⟩]) : FnOk E nsmall_id nsmall_W := fn1_ok nsmall_hO mix nsmall_f nsmall_n nsmall_b (fun x0 _ => (nsmall_e _ x0).trans (h x0))
theorem nsmall_ok : FnOk E nsmall_id nsmall_W := nsmall_ok_of fun c => rfl
noncomputable def nnumber_W : FnW E := fn1 (E := E) .byte .bool (fun _ => true) numberB
def nnumber_id : FuncId := 124
noncomputable def nnumber_O : Oracle E := orac [] [] [] []
noncomputable def nnumber_H : Hint E := Hint.mk [] [] [] [] []
noncomputable def nnumber_t (_G : Nat → ASt E → Option (List (TV E))) (x0 : Int) : Option (List (TV E)) :=
  some [⟨.bool, (bif (decide ((48 : Int) ≤ x0)) then (decide (x0 ≤ (57 : Int))) else false)⟩]
theorem nnumber_e (G : Nat → ASt E → Option (List (TV E))) (x0 : Int) : runE nnumber_O nnumber_H G Tryz.f124 [⟨.byte, x0⟩] = nnumber_t G x0 := by kernel_rfl
theorem nnumber_f : Tryz.prog.funcs[124]? = some Tryz.f124 := by kernel_rfl
theorem nnumber_n : (Tryz.f124.name == "runtime.NumGoroutine") = false := by kernel_rfl
theorem nnumber_b : Tryz.f124.body.isNone = false := by kernel_rfl
theorem nnumber_ex : ∃ fn, Tryz.prog.funcs[124]? = some fn ∧ (fn.name == "runtime.NumGoroutine") = false ∧ fn.body.isNone = false := ⟨Tryz.f124, nnumber_f, nnumber_n, nnumber_b⟩
theorem nnumber_hO : OracleOk E nnumber_O := orac_ok .nil .nil .nil .nil
theorem nnumber_ok_of (h : ∀ (x0 : Int), nnumber_t (Gr E Tryz.f124 [⟨.bool, numberB x0⟩]) x0 = some [⟨.bool, numberB x0⟩]) : FnOk E nnumber_id nnumber_W := fn1_ok nnumber_hO mix nnumber_f nnumber_n nnumber_b (fun x0 _ => (nnumber_e _ x0).trans (h x0))
theorem nnumber_ok : FnOk E nnumber_id nnumber_W := nnumber_ok_of fun c => rfl
noncomputable def nletter_W : FnW E := fn1 (E := E) .byte .bool (fun _ => true) letterB
def nletter_id : FuncId := 123
noncomputable def nletter_O : Oracle E := orac [(161, nsmall_W)] [] [] []
noncomputable def nletter_H : Hint E := Hint.mk [] [] [] [] []
noncomputable def nletter_t (_G : Nat → ASt E → Option (List (TV E))) (x0 : Int) : Option (List (TV E)) :=
  some [⟨.bool, (bif (smallB x0) then true else (bif (decide ((65 : Int) ≤ x0)) then (decide (x0 ≤ (90 : Int))) else false))⟩]
theorem nletter_e (G : Nat → ASt E → Option (List (TV E))) (x0 : Int) : runE nletter_O nletter_H G Tryz.f123 [⟨.byte, x0⟩] = nletter_t G x0 := by kernel_rfl
theorem nletter_f : Tryz.prog.funcs[123]? = some Tryz.f123 := by kernel_rfl
theorem nletter_n : (Tryz.f123.name == "runtime.NumGoroutine") = false := by kernel_rfl
theorem nletter_b : Tryz.f123.body.isNone = false := by kernel_rfl
theorem nletter_ex : ∃ fn, Tryz.prog.funcs[123]? = some fn ∧ (fn.name == "runtime.NumGoroutine") = false ∧ fn.body.isNone = false := ⟨Tryz.f123, nletter_f, nletter_n, nletter_b⟩
theorem nletter_hO : OracleOk E nletter_O := orac_ok (.cons nsmall_ok .nil) .nil .nil .nil
theorem nletter_ok_of (h : ∀ (x0 : Int), nletter_t (Gr E Tryz.f123 [⟨.bool, letterB x0⟩]) x0 = some [⟨.bool, letterB x0⟩]) : FnOk E nletter_id nletter_W := fn1_ok nletter_hO mix nletter_f nletter_n nletter_b (fun x0 _ => (nletter_e _ x0).trans (h x0))
theorem nletter_ok : FnOk E nletter_id nletter_W := nletter_ok_of fun c => rfl
def s1B (c : Int) : Bool := bif letterB c then true else numberB c
def s2B (c : Int) : Bool := bif (bif (bif (bif letterB c then true else numberB c) then true else c == 45) then true else c == 95) then true else c == 46
def v1B (c : Int) : Bool := bif letterB c then true else c == 95
def v2B (c : Int) : Bool := bif (bif letterB c then true else numberB c) then true else c == 95
def ofV (f g : Int → Bool) (s : List UInt8) : Bool := bif (bif (bif decide ((s.length : Int) < 1) then true else decide ((24 : Int) < (s.length : Int))) then true else !(f (Int.ofNat (List.getD s (Int.toNat 0) 0).toNat))) then false else (s.drop 1).all fun c => g (Int.ofNat c.toNat)
theorem of_in (s : List UInt8) : ((decide ((0 : Int) ≤ 0) && decide ((0 : Int) < (s.length : Int))) || !(!(bif decide ((s.length : Int) < 1) then true else decide ((24 : Int) < (s.length : Int))))) = true := by
  cases s with
  | nil => rfl
  | cons c t => rw [dT (show (0 : Int) < ((c :: t).length : Int) by rw [List.length_cons]; omega)]; rfl
def okNm1 (s : List UInt8) : Bool := decide (s.length ≤ 1000000)
noncomputable def ns1_W : FnW E := fn1 (E := E) .byte .bool (fun _ => true) s1B
def ns1_id : FuncId := 122
noncomputable def ns1_O : Oracle E := orac [(123, nletter_W), (124, nnumber_W)] [] [] []
noncomputable def ns1_H : Hint E := Hint.mk [] [] [] [] []
noncomputable def ns1_t (_G : Nat → ASt E → Option (List (TV E))) (x0 : Int) : Option (List (TV E)) :=
  some [⟨.bool, (bif (letterB x0) then true else (numberB x0))⟩]
theorem ns1_e (G : Nat → ASt E → Option (List (TV E))) (x0 : Int) : runE ns1_O ns1_H G Tryz.f122 [⟨.byte, x0⟩] = ns1_t G x0 := by kernel_rfl
theorem ns1_f : Tryz.prog.funcs[122]? = some Tryz.f122 := by kernel_rfl
theorem ns1_n : (Tryz.f122.name == "runtime.NumGoroutine") = false := by kernel_rfl
theorem ns1_b : Tryz.f122.body.isNone = false := by kernel_rfl
theorem ns1_ex : ∃ fn, Tryz.prog.funcs[122]? = some fn ∧ (fn.name == "runtime.NumGoroutine") = false ∧ fn.body.isNone = false := ⟨Tryz.f122, ns1_f, ns1_n, ns1_b⟩
theorem ns1_hO : OracleOk E ns1_O := orac_ok (.cons nletter_ok (.cons nnumber_ok .nil)) .nil .nil .nil
theorem ns1_ok_of (h : ∀ (x0 : Int), ns1_t (Gr E Tryz.f122 [⟨.bool, s1B x0⟩]) x0 = some [⟨.bool, s1B x0⟩]) : FnOk E ns1_id ns1_W := fn1_ok ns1_hO mix ns1_f ns1_n ns1_b (fun x0 _ => (ns1_e _ x0).trans (h x0))
theorem ns1_ok : FnOk E ns1_id ns1_W := ns1_ok_of fun c => rfl
noncomputable def ns2_W : FnW E := fn1 (E := E) .byte .bool (fun _ => true) s2B
def ns2_id : FuncId := 125
noncomputable def ns2_O : Oracle E := orac [(123, nletter_W), (124, nnumber_W)] [] [] []
noncomputable def ns2_H : Hint E := Hint.mk [] [] [] [] []
noncomputable def ns2_t (_G : Nat → ASt E → Option (List (TV E))) (x0 : Int) : Option (List (TV E)) :=
  some [⟨.bool, (bif (bif (bif (bif (letterB x0) then true else (numberB x0)) then true else (x0 == (45 : Int))) then true else (x0 == (95 : Int))) then true else (x0 == (46 : Int)))⟩]
theorem ns2_e (G : Nat → ASt E → Option (List (TV E))) (x0 : Int) : runE ns2_O ns2_H G Tryz.f125 [⟨.byte, x0⟩] = ns2_t G x0 := by kernel_rfl
theorem ns2_f : Tryz.prog.funcs[125]? = some Tryz.f125 := by kernel_rfl
theorem ns2_n : (Tryz.f125.name == "runtime.NumGoroutine") = false := by kernel_rfl
theorem ns2_b : Tryz.f125.body.isNone = false := by kernel_rfl
theorem ns2_ex : ∃ fn, Tryz.prog.funcs[125]? = some fn ∧ (fn.name == "runtime.NumGoroutine") = false ∧ fn.body.isNone = false := ⟨Tryz.f125, ns2_f, ns2_n, ns2_b⟩
theorem ns2_hO : OracleOk E ns2_O := orac_ok (.cons nletter_ok (.cons nnumber_ok .nil)) .nil .nil .nil
theorem ns2_ok_of (h : ∀ (x0 : Int), ns2_t (Gr E Tryz.f125 [⟨.bool, s2B x0⟩]) x0 = some [⟨.bool, s2B x0⟩]) : FnOk E ns2_id ns2_W := fn1_ok ns2_hO mix ns2_f ns2_n ns2_b (fun x0 _ => (ns2_e _ x0).trans (h x0))
theorem ns2_ok : FnOk E ns2_id ns2_W := ns2_ok_of fun c => rfl
def okOfs (s : List UInt8) (f g : Nat) : Bool := decide (f = 122) && (decide (g = 125) && decide (s.length ≤ 1000000))
theorem okOfs_iff {s : List UInt8} {f g : Nat} : okOfs s f g = true ↔ f = 122 ∧ g = 125 ∧ s.length ≤ 1000000 := by simp [okOfs]
def ofs (s : List UInt8) (_ _ : Nat) : Bool := ofV s1B s2B s
noncomputable def nofs_W : FnW E := fn3 (E := E) .str .fn113 .fn113 .bool okOfs ofs
def nofs_id : FuncId := 121
noncomputable def nofs_O : Oracle E := orac [(122, ns1_W), (125, ns2_W)] [] [] []
noncomputable def nofs_H : Hint E := Hint.mk [(0, [0, 2, 7])] [] [] [] []
noncomputable def nofs_C0 (v0 : List UInt8) (v1 : Int) : ASt E := ASt.mk 35 [(0, .d (.str v0)), (2, .d (.raw (.func (.func 125) #[] #[]))), (7, .d (.int .i64 v1))] [] 0
noncomputable def nofs_t (G : Nat → ASt E → Option (List (TV E))) (x0 : List UInt8) : Option (List (TV E)) :=
  bif ((decide ((0 : Int) ≤ (0 : Int)) && decide ((0 : Int) < (x0.length : Int))) || !(!(bif (decide ((x0.length : Int) < (1 : Int))) then true else (decide ((24 : Int) < (x0.length : Int)))))) then (bif (bif (bif (decide ((x0.length : Int) < (1 : Int))) then true else (decide ((24 : Int) < (x0.length : Int)))) then true else (!(s1B (((List.getD x0 (Int.toNat (0 : Int)) 0).toNat : Nat) : Int)))) then some [⟨.bool, false⟩] else G 0 (nofs_C0 x0 (1 : Int))) else none
theorem nofs_e (G : Nat → ASt E → Option (List (TV E))) (x0 : List UInt8) : runE nofs_O nofs_H G Tryz.f121 [⟨.str, x0⟩, ⟨.fn113, 122⟩, ⟨.fn113, 125⟩] = nofs_t G x0 := by kernel_rfl
noncomputable def nofs_t0 (G : Nat → ASt E → Option (List (TV E))) (v0 : List UInt8) (v1 : Int) : Option (List (TV E)) :=
  bif (decide (v1 < (v0.length : Int))) then (bif (decide ((0 : Int) ≤ v1) && decide (v1 < (v0.length : Int))) then (bif (!(s2B (((List.getD v0 (Int.toNat v1) 0).toNat : Nat) : Int))) then some [⟨.bool, false⟩] else G 0 (nofs_C0 v0 (w64 (v1 + (1 : Int))))) else none) else some [⟨.bool, true⟩]
theorem nofs_l0 (G : Nat → ASt E → Option (List (TV E))) (v0 : List UInt8) (v1 : Int) : runL nofs_O nofs_H G Tryz.f121 0 (nofs_C0 v0 v1) = nofs_t0 G v0 v1 := by kernel_rfl
theorem nofs_f : Tryz.prog.funcs[121]? = some Tryz.f121 := by kernel_rfl
theorem nofs_n : (Tryz.f121.name == "runtime.NumGoroutine") = false := by kernel_rfl
theorem nofs_b : Tryz.f121.body.isNone = false := by kernel_rfl
theorem nofs_ex : ∃ fn, Tryz.prog.funcs[121]? = some fn ∧ (fn.name == "runtime.NumGoroutine") = false ∧ fn.body.isNone = false := ⟨Tryz.f121, nofs_f, nofs_n, nofs_b⟩
theorem nofs_hO : OracleOk E nofs_O := orac_ok (.cons ns1_ok (.cons ns2_ok .nil)) .nil .nil .nil
theorem nofs_s0 {res : List (TV E)} {v0 : List UInt8} {v1 : Int} (h : nofs_t0 (Gr E Tryz.f121 res) v0 v1 = some res) : Ev E Tryz.f121 res 0 (nofs_C0 v0 v1) := Ev.step nofs_hO mix ((nofs_l0 _ v0 v1).trans h)
theorem nofs_ok_of (hs1 : ∀ (x0 : List UInt8) (x1 : Nat) (x2 : Nat), okOfs x0 x1 x2 = true → x1 = 122) (hs2 : ∀ (x0 : List UInt8) (x1 : Nat) (x2 : Nat), okOfs x0 x1 x2 = true → x2 = 125) (h : ∀ (x0 : List UInt8), okOfs x0 122 125 = true → nofs_t (Gr E Tryz.f121 [⟨.bool, ofs x0 122 125⟩]) x0 = some [⟨.bool, ofs x0 122 125⟩]) : FnOk E nofs_id nofs_W := fn3_ok nofs_hO mix nofs_f nofs_n nofs_b (fun x0 x1 x2 hk => by have e1 := hs1 x0 x1 x2 hk; have e2 := hs2 x0 x1 x2 hk; subst e1; subst e2; exact (nofs_e _ x0).trans (h x0 hk))
theorem nofs_loop (s : List UInt8) (hs : s.length ≤ 1000000) : ∀ (m i : Nat), s.length - i = m → i ≤ s.length →
    Ev E Tryz.f121 [⟨.bool, (s.drop i).all fun c => s2B (Int.ofNat c.toNat)⟩] 0 (nofs_C0 s i) := by
  intro m
  induction m with
  | zero =>
    intro i h1 h2
    refine nofs_s0 ?_
    simp only [nofs_t0, dge (show s.length ≤ i by omega), cond_false, List.drop_eq_nil_of_le (show s.length ≤ i by omega)]
    rfl
  | succ m ih =>
    intro i h1 h2
    have hi : i < s.length := by omega
    have e3 : w64 ((i : Int) + 1) = ((i + 1 : Nat) : Int) := by rw [w64_id (by omega) (by omega)]; omega
    refine nofs_s0 ?_
    simp only [nofs_t0, dlt hi, d0, gd s _ i hi, Bool.and_self, cond_true, e3]
    rw [← List.getElem_cons_drop hi, List.all_cons]
    change (bif !(s2B (Int.ofNat s[i].toNat)) then _ else _) = _
    cases s2B (Int.ofNat s[i].toNat) with
    | false => rfl
    | true => exact Gr_of (ih (i + 1) (by omega) (by omega))
theorem nofs_ok : FnOk E nofs_id nofs_W := nofs_ok_of (fun s f g h => (okOfs_iff.1 h).1) (fun s f g h => (okOfs_iff.1 h).2.1) fun s hk => by
  have hs := (okOfs_iff.1 hk).2.2
  simp only [nofs_t, ofs, ofV]
  have e0 := of_in s
  simp only [e0, cond_true]
  change (bif (bif (bif decide ((s.length : Int) < 1) then true else decide ((24 : Int) < (s.length : Int))) then true else !(s1B (Int.ofNat (List.getD s (Int.toNat 0) 0).toNat))) then _ else _) = _
  cases hb : (bif (bif decide ((s.length : Int) < 1) then true else decide ((24 : Int) < (s.length : Int))) then true else !(s1B (Int.ofNat (List.getD s (Int.toNat 0) 0).toNat))) with
  | true => rfl
  | false =>
    simp only [cond_false]
    have h1 : 1 ≤ s.length := by
      by_cases a : (s.length : Int) < 1
      · rw [dT a] at hb; cases hb
      · omega
    exact Gr_of (nofs_loop s hs _ 1 rfl h1)
noncomputable def nService_W : FnW E := fn1 (E := E) .str .bool okNm1 (ofV s1B s2B)
def nService_id : FuncId := 69
noncomputable def nService_O : Oracle E := orac [(121, nofs_W)] [] [] []
noncomputable def nService_H : Hint E := Hint.mk [] [] [] [] []
noncomputable def nService_t (_G : Nat → ASt E → Option (List (TV E))) (x0 : List UInt8) : Option (List (TV E)) :=
  bif (okOfs x0 122 125) then some [⟨.bool, (ofs x0 122 125)⟩] else none
theorem nService_e (G : Nat → ASt E → Option (List (TV E))) (x0 : List UInt8) : runE nService_O nService_H G Tryz.f69 [⟨.str, x0⟩] = nService_t G x0 := by kernel_rfl
theorem nService_f : Tryz.prog.funcs[69]? = some Tryz.f69 := by kernel_rfl
theorem nService_n : (Tryz.f69.name == "runtime.NumGoroutine") = false := by kernel_rfl
theorem nService_b : Tryz.f69.body.isNone = false := by kernel_rfl
theorem nService_ex : ∃ fn, Tryz.prog.funcs[69]? = some fn ∧ (fn.name == "runtime.NumGoroutine") = false ∧ fn.body.isNone = false := ⟨Tryz.f69, nService_f, nService_n, nService_b⟩
theorem nService_hO : OracleOk E nService_O := orac_ok (.cons nofs_ok .nil) .nil .nil .nil
theorem nService_ok_of (h : ∀ (x0 : List UInt8), okNm1 x0 = true → nService_t (Gr E Tryz.f69 [⟨.bool, (ofV s1B s2B) x0⟩]) x0 = some [⟨.bool, (ofV s1B s2B) x0⟩]) : FnOk E nService_id nService_W := fn1_ok nService_hO mix nService_f nService_n nService_b (fun x0 hk => (nService_e _ x0).trans (h x0 hk))
theorem nService_ok : FnOk E nService_id nService_W := nService_ok_of fun s hk => by
  have hs : s.length ≤ 1000000 := by simpa [okNm1] using hk
  have e : okOfs s 122 125 = true := okOfs_iff.2 ⟨rfl, rfl, hs⟩
  simp only [nService_t, e, cond_true]
  rfl
noncomputable def nv1_W : FnW E := fn1 (E := E) .byte .bool (fun _ => true) v1B
def nv1_id : FuncId := 126
noncomputable def nv1_O : Oracle E := orac [(123, nletter_W)] [] [] []
noncomputable def nv1_H : Hint E := Hint.mk [] [] [] [] []
noncomputable def nv1_t (_G : Nat → ASt E → Option (List (TV E))) (x0 : Int) : Option (List (TV E)) :=
  some [⟨.bool, (bif (letterB x0) then true else (x0 == (95 : Int)))⟩]
theorem nv1_e (G : Nat → ASt E → Option (List (TV E))) (x0 : Int) : runE nv1_O nv1_H G Tryz.f126 [⟨.byte, x0⟩] = nv1_t G x0 := by kernel_rfl
theorem nv1_f : Tryz.prog.funcs[126]? = some Tryz.f126 := by kernel_rfl
theorem nv1_n : (Tryz.f126.name == "runtime.NumGoroutine") = false := by kernel_rfl
theorem nv1_b : Tryz.f126.body.isNone = false := by kernel_rfl
theorem nv1_ex : ∃ fn, Tryz.prog.funcs[126]? = some fn ∧ (fn.name == "runtime.NumGoroutine") = false ∧ fn.body.isNone = false := ⟨Tryz.f126, nv1_f, nv1_n, nv1_b⟩
theorem nv1_hO : OracleOk E nv1_O := orac_ok (.cons nletter_ok .nil) .nil .nil .nil
theorem nv1_ok_of (h : ∀ (x0 : Int), nv1_t (Gr E Tryz.f126 [⟨.bool, v1B x0⟩]) x0 = some [⟨.bool, v1B x0⟩]) : FnOk E nv1_id nv1_W := fn1_ok nv1_hO mix nv1_f nv1_n nv1_b (fun x0 _ => (nv1_e _ x0).trans (h x0))
theorem nv1_ok : FnOk E nv1_id nv1_W := nv1_ok_of fun c => rfl
noncomputable def nv2_W : FnW E := fn1 (E := E) .byte .bool (fun _ => true) v2B
def nv2_id : FuncId := 127
noncomputable def nv2_O : Oracle E := orac [(123, nletter_W), (124, nnumber_W)] [] [] []
noncomputable def nv2_H : Hint E := Hint.mk [] [] [] [] []
noncomputable def nv2_t (_G : Nat → ASt E → Option (List (TV E))) (x0 : Int) : Option (List (TV E)) :=
  some [⟨.bool, (bif (bif (letterB x0) then true else (numberB x0)) then true else (x0 == (95 : Int)))⟩]
theorem nv2_e (G : Nat → ASt E → Option (List (TV E))) (x0 : Int) : runE nv2_O nv2_H G Tryz.f127 [⟨.byte, x0⟩] = nv2_t G x0 := by kernel_rfl
theorem nv2_f : Tryz.prog.funcs[127]? = some Tryz.f127 := by kernel_rfl
theorem nv2_n : (Tryz.f127.name == "runtime.NumGoroutine") = false := by kernel_rfl
theorem nv2_b : Tryz.f127.body.isNone = false := by kernel_rfl
theorem nv2_ex : ∃ fn, Tryz.prog.funcs[127]? = some fn ∧ (fn.name == "runtime.NumGoroutine") = false ∧ fn.body.isNone = false := ⟨Tryz.f127, nv2_f, nv2_n, nv2_b⟩
theorem nv2_hO : OracleOk E nv2_O := orac_ok (.cons nletter_ok (.cons nnumber_ok .nil)) .nil .nil .nil
theorem nv2_ok_of (h : ∀ (x0 : Int), nv2_t (Gr E Tryz.f127 [⟨.bool, v2B x0⟩]) x0 = some [⟨.bool, v2B x0⟩]) : FnOk E nv2_id nv2_W := fn1_ok nv2_hO mix nv2_f nv2_n nv2_b (fun x0 _ => (nv2_e _ x0).trans (h x0))
theorem nv2_ok : FnOk E nv2_id nv2_W := nv2_ok_of fun c => rfl
def okOfv (s : List UInt8) (f g : Nat) : Bool := decide (f = 126) && (decide (g = 127) && decide (s.length ≤ 1000000))
theorem okOfv_iff {s : List UInt8} {f g : Nat} : okOfv s f g = true ↔ f = 126 ∧ g = 127 ∧ s.length ≤ 1000000 := by simp [okOfv]
def ofv (s : List UInt8) (_ _ : Nat) : Bool := ofV v1B v2B s
noncomputable def nofv_W : FnW E := fn3 (E := E) .str .fn113 .fn113 .bool okOfv ofv
def nofv_id : FuncId := 121
noncomputable def nofv_O : Oracle E := orac [(126, nv1_W), (127, nv2_W)] [] [] []
noncomputable def nofv_H : Hint E := Hint.mk [(0, [0, 2, 7])] [] [] [] []
noncomputable def nofv_C0 (v0 : List UInt8) (v1 : Int) : ASt E := ASt.mk 35 [(0, .d (.str v0)), (2, .d (.raw (.func (.func 127) #[] #[]))), (7, .d (.int .i64 v1))] [] 0
noncomputable def nofv_t (G : Nat → ASt E → Option (List (TV E))) (x0 : List UInt8) : Option (List (TV E)) :=
  bif ((decide ((0 : Int) ≤ (0 : Int)) && decide ((0 : Int) < (x0.length : Int))) || !(!(bif (decide ((x0.length : Int) < (1 : Int))) then true else (decide ((24 : Int) < (x0.length : Int)))))) then (bif (bif (bif (decide ((x0.length : Int) < (1 : Int))) then true else (decide ((24 : Int) < (x0.length : Int)))) then true else (!(v1B (((List.getD x0 (Int.toNat (0 : Int)) 0).toNat : Nat) : Int)))) then some [⟨.bool, false⟩] else G 0 (nofv_C0 x0 (1 : Int))) else none
theorem nofv_e (G : Nat → ASt E → Option (List (TV E))) (x0 : List UInt8) : runE nofv_O nofv_H G Tryz.f121 [⟨.str, x0⟩, ⟨.fn113, 126⟩, ⟨.fn113, 127⟩] = nofv_t G x0 := by kernel_rfl
noncomputable def nofv_t0 (G : Nat → ASt E → Option (List (TV E))) (v0 : List UInt8) (v1 : Int) : Option (List (TV E)) :=
  bif (decide (v1 < (v0.length : Int))) then (bif (decide ((0 : Int) ≤ v1) && decide (v1 < (v0.length : Int))) then (bif (!(v2B (((List.getD v0 (Int.toNat v1) 0).toNat : Nat) : Int))) then some [⟨.bool, false⟩] else G 0 (nofv_C0 v0 (w64 (v1 + (1 : Int))))) else none) else some [⟨.bool, true⟩]
theorem nofv_l0 (G : Nat → ASt E → Option (List (TV E))) (v0 : List UInt8) (v1 : Int) : runL nofv_O nofv_H G Tryz.f121 0 (nofv_C0 v0 v1) = nofv_t0 G v0 v1 := by kernel_rfl
theorem nofv_f : Tryz.prog.funcs[121]? = some Tryz.f121 := by kernel_rfl
theorem nofv_n : (Tryz.f121.name == "runtime.NumGoroutine") = false := by kernel_rfl
theorem nofv_b : Tryz.f121.body.isNone = false := by kernel_rfl
theorem nofv_ex : ∃ fn, Tryz.prog.funcs[121]? = some fn ∧ (fn.name == "runtime.NumGoroutine") = false ∧ fn.body.isNone = false := ⟨Tryz.f121, nofv_f, nofv_n, nofv_b⟩
theorem nofv_hO : OracleOk E nofv_O := orac_ok (.cons nv1_ok (.cons nv2_ok .nil)) .nil .nil .nil
theorem nofv_s0 {res : List (TV E)} {v0 : List UInt8} {v1 : Int} (h : nofv_t0 (Gr E Tryz.f121 res) v0 v1 = some res) : Ev E Tryz.f121 res 0 (nofv_C0 v0 v1) := Ev.step nofv_hO mix ((nofv_l0 _ v0 v1).trans h)
theorem nofv_ok_of (hs1 : ∀ (x0 : List UInt8) (x1 : Nat) (x2 : Nat), okOfv x0 x1 x2 = true → x1 = 126) (hs2 : ∀ (x0 : List UInt8) (x1 : Nat) (x2 : Nat), okOfv x0 x1 x2 = true → x2 = 127) (h : ∀ (x0 : List UInt8), okOfv x0 126 127 = true → nofv_t (Gr E Tryz.f121 [⟨.bool, ofv x0 126 127⟩]) x0 = some [⟨.bool, ofv x0 126 127⟩]) : FnOk E nofv_id nofv_W := fn3_ok nofv_hO mix nofv_f nofv_n nofv_b (fun x0 x1 x2 hk => by have e1 := hs1 x0 x1 x2 hk; have e2 := hs2 x0 x1 x2 hk; subst e1; subst e2; exact (nofv_e _ x0).trans (h x0 hk))
theorem nofv_loop (s : List UInt8) (hs : s.length ≤ 1000000) : ∀ (m i : Nat), s.length - i = m → i ≤ s.length →
    Ev E Tryz.f121 [⟨.bool, (s.drop i).all fun c => v2B (Int.ofNat c.toNat)⟩] 0 (nofv_C0 s i) := by
  intro m
  induction m with
  | zero =>
    intro i h1 h2
    refine nofv_s0 ?_
    simp only [nofv_t0, dge (show s.length ≤ i by omega), cond_false, List.drop_eq_nil_of_le (show s.length ≤ i by omega)]
    rfl
  | succ m ih =>
    intro i h1 h2
    have hi : i < s.length := by omega
    have e3 : w64 ((i : Int) + 1) = ((i + 1 : Nat) : Int) := by rw [w64_id (by omega) (by omega)]; omega
    refine nofv_s0 ?_
    simp only [nofv_t0, dlt hi, d0, gd s _ i hi, Bool.and_self, cond_true, e3]
    rw [← List.getElem_cons_drop hi, List.all_cons]
    change (bif !(v2B (Int.ofNat s[i].toNat)) then _ else _) = _
    cases v2B (Int.ofNat s[i].toNat) with
    | false => rfl
    | true => exact Gr_of (ih (i + 1) (by omega) (by omega))
theorem nofv_ok : FnOk E nofv_id nofv_W := nofv_ok_of (fun s f g h => (okOfv_iff.1 h).1) (fun s f g h => (okOfv_iff.1 h).2.1) fun s hk => by
  have hs := (okOfv_iff.1 hk).2.2
  simp only [nofv_t, ofv, ofV]
  have e0 := of_in s
  simp only [e0, cond_true]
  change (bif (bif (bif decide ((s.length : Int) < 1) then true else decide ((24 : Int) < (s.length : Int))) then true else !(v1B (Int.ofNat (List.getD s (Int.toNat 0) 0).toNat))) then _ else _) = _
  cases hb : (bif (bif decide ((s.length : Int) < 1) then true else decide ((24 : Int) < (s.length : Int))) then true else !(v1B (Int.ofNat (List.getD s (Int.toNat 0) 0).toNat))) with
  | true => rfl
  | false =>
    simp only [cond_false]
    have h1 : 1 ≤ s.length := by
      by_cases a : (s.length : Int) < 1
      · rw [dT a] at hb; cases hb
      · omega
    exact Gr_of (nofv_loop s hs _ 1 rfl h1)
noncomputable def nVariable_W : FnW E := fn1 (E := E) .str .bool okNm1 (ofV v1B v2B)
def nVariable_id : FuncId := 70
noncomputable def nVariable_O : Oracle E := orac [(121, nofv_W)] [] [] []
noncomputable def nVariable_H : Hint E := Hint.mk [] [] [] [] []
noncomputable def nVariable_t (_G : Nat → ASt E → Option (List (TV E))) (x0 : List UInt8) : Option (List (TV E)) :=
  bif (okOfv x0 126 127) then some [⟨.bool, (ofv x0 126 127)⟩] else none
theorem nVariable_e (G : Nat → ASt E → Option (List (TV E))) (x0 : List UInt8) : runE nVariable_O nVariable_H G Tryz.f70 [⟨.str, x0⟩] = nVariable_t G x0 := by kernel_rfl
theorem nVariable_f : Tryz.prog.funcs[70]? = some Tryz.f70 := by kernel_rfl
theorem nVariable_n : (Tryz.f70.name == "runtime.NumGoroutine") = false := by kernel_rfl
theorem nVariable_b : Tryz.f70.body.isNone = false := by kernel_rfl
theorem nVariable_ex : ∃ fn, Tryz.prog.funcs[70]? = some fn ∧ (fn.name == "runtime.NumGoroutine") = false ∧ fn.body.isNone = false := ⟨Tryz.f70, nVariable_f, nVariable_n, nVariable_b⟩
theorem nVariable_hO : OracleOk E nVariable_O := orac_ok (.cons nofv_ok .nil) .nil .nil .nil
theorem nVariable_ok_of (h : ∀ (x0 : List UInt8), okNm1 x0 = true → nVariable_t (Gr E Tryz.f70 [⟨.bool, (ofV v1B v2B) x0⟩]) x0 = some [⟨.bool, (ofV v1B v2B) x0⟩]) : FnOk E nVariable_id nVariable_W := fn1_ok nVariable_hO mix nVariable_f nVariable_n nVariable_b (fun x0 hk => (nVariable_e _ x0).trans (h x0 hk))
theorem nVariable_ok : FnOk E nVariable_id nVariable_W := nVariable_ok_of fun s hk => by
  have hs : s.length ≤ 1000000 := by simpa [okNm1] using hk
  have e : okOfv s 126 127 = true := okOfv_iff.2 ⟨rfl, rfl, hs⟩
  simp only [nVariable_t, e, cond_true]
  rfl
theorem bytes_all {p : Nat → Bool} (h : (List.range 256).all p = true) (c : UInt8) : p c.toNat = true := List.all_eq_true.1 h _ (List.mem_range.2 c.toNat_lt)
theorem s1_bad (c : UInt8) : (!(s1B (Int.ofNat c.toNat))) = badS c true := beq_iff_eq.1 (bytes_all (p := fun n => (!(s1B (Int.ofNat n))) == (bif kindV (Int.ofNat n) == 0 then true else (bif true then decide (3 < kindV (Int.ofNat n)) else false))) (by decide +kernel) c)
theorem s2_bad (c : UInt8) : (!(s2B (Int.ofNat c.toNat))) = badS c false := beq_iff_eq.1 (bytes_all (p := fun n => (!(s2B (Int.ofNat n))) == (bif kindV (Int.ofNat n) == 0 then true else (bif false then decide (3 < kindV (Int.ofNat n)) else false))) (by decide +kernel) c)
theorem nmL_all {f : UInt8 → Bool → Bool} {g : Int → Bool} (h : ∀ c : UInt8, (!(g (Int.ofNat c.toNat))) = f c false) : ∀ s : List UInt8, nmL f s false = s.all fun c => g (Int.ofNat c.toNat)
  | [] => rfl
  | c :: t => by
    have hc := h c
    rw [List.all_cons, ← nmL_all h t]
    simp only [nmL, ← hc]
    cases g (Int.ofNat c.toNat) <;> rfl
theorem ofV_eq {f : UInt8 → Bool → Bool} {g1 g2 : Int → Bool} (h1 : ∀ c : UInt8, (!(g1 (Int.ofNat c.toNat))) = f c true) (h2 : ∀ c : UInt8, (!(g2 (Int.ofNat c.toNat))) = f c false) (s : List UInt8) : ofV g1 g2 s = nameV f s := by
  unfold ofV nameV
  cases s with
  | nil => rfl
  | cons c t =>
    cases (bif decide ((((c :: t).length : Nat) : Int) < 1) then true else decide ((24 : Int) < (((c :: t).length : Nat) : Int))) with
    | true => rfl
    | false =>
      have e : List.getD (c :: t) (Int.toNat 0) 0 = c := rfl
      have e2 : (c :: t).drop 1 = t := rfl
      simp only [cond_false, nmL, e, e2, h1, nmL_all h2]
theorem service_eq (s : List UInt8) : ofV s1B s2B s = nameV badS s := ofV_eq s1_bad s2_bad s
end Go.Proofs.YtpmknebhacaocaaGreatDoor.Rf