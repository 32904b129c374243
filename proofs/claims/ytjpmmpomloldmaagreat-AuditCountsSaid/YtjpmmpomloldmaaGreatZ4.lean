/- 'AuditCounts' of chapter 47, closed: what the law's function computes (by the Mirror) gives the given statement, without conditions. -/
import Derived.Test.YtjpmmpomloldmaaGreatZ3
import Derived.WalkKit
import Derived.ProofKit
import Derived.Lib.Builder
import Derived.WalkLawsBesides
import Derived.WalkSpells
import Derived.Deep.Slices
import Derived.ChangeSame
import Derived.ChangeArms
import Derived.OpenShut
import Derived.ChangeOld
import Derived.Below
import Derived.Carry
namespace Go.Proofs.YtjpmmpomloldmaaGreat.Rf
open Go Go.RowKit Go.Proofs.YtjpmmpomloldmaaGreat.Mir
theorem gd {α : Type} (l : List α) (d : α) (i : Nat) (h : i < l.length) : List.getD l (Int.toNat (i : Int)) d = l[i] := by
  rw [Int.toNat_natCast, List.getD, List.getElem?_eq_getElem h]; rfl
theorem d0 (i : Nat) : decide ((0 : Int) ≤ (i : Int)) = true := by simp
theorem dlt {i n : Nat} (h : i < n) : decide ((i : Int) < (n : Int)) = true := by simp only [decide_eq_true_eq]; omega
theorem dge {i n : Nat} (h : n ≤ i) : decide ((i : Int) < (n : Int)) = false := by simp only [decide_eq_false_iff_not]; omega
theorem dT {p : Prop} [Decidable p] (h : p) : decide p = true := decide_eq_true h
theorem dF {p : Prop} [Decidable p] (h : ¬ p) : decide p = false := decide_eq_false h
theorem mb : maxBytes = 140737488355328 := rfl
theorem w1 {i : Nat} (h : i ≤ 1000000) : w64 ((i : Int) + 1) = ((i + 1 : Nat) : Int) := by rw [w64_id (by omega) (by omega)]; rfl
def longN (x : Note) : Bool := bif (bif (bif (bif (decide ((200 : Int) < (x.project.length : Int))) then true else (decide ((200 : Int) < (x.call.name.length : Int)))) then true else (decide ((200 : Int) < (x.call.spec.name.length : Int)))) then true else (decide ((10 : Int) < (x.call.spec.nets.length : Int)))) then true else (decide ((10 : Int) < (x.call.spec.vols.length : Int)))
def fewV (l : List Note) (m : Int) : Bool := bif decide (m < (l.length : Int)) then false else l.all fun x => !(longN x)
def okFew (_ : List Note) (m : Int) : Bool := decide (m ≤ 1000000)
noncomputable def few_W : FnW E := fn2 (E := E) .l_ref44_Note .int .bool okFew fewV
def few_id : FuncId := 4
noncomputable def few_O : Oracle E := orac [] [] [] []
noncomputable def few_H : Hint E := Hint.mk [(0, [0, 5])] [] [] [] [] 5 []
noncomputable def few_C0 (v0 : List Note) (v1 : Int) : ASt E := ASt.mk 66 [(0, .d (.slice .ref44_Note v0)), (5, .d (.int .i64 v1))] [] 0
noncomputable def few_t (G : Nat → ASt E → Option (List (TV E))) (x0 : List Note) (x1 : Int) : Option (List (TV E)) :=
  bif (decide (x1 < (x0.length : Int))) then some [⟨.bool, false⟩] else G 0 (few_C0 x0 0)
theorem few_e (G : Nat → ASt E → Option (List (TV E))) (x0 : List Note) (x1 : Int) : runE few_O few_H G Tryz.f4 [⟨.l_ref44_Note, x0⟩, ⟨.int, x1⟩] = few_t G x0 x1 := by kernel_rfl
noncomputable def few_t0 (G : Nat → ASt E → Option (List (TV E))) (v0 : List Note) (v1 : Int) : Option (List (TV E)) :=
  bif (decide (v1 < (v0.length : Int))) then (bif (decide ((0 : Int) ≤ v1) && decide (v1 < (v0.length : Int))) then (bif ((decide ((0 : Int) ≤ v1) && decide (v1 < (v0.length : Int))) || !(!(decide ((200 : Int) < (((List.getD v0 (Int.toNat v1) (dflt .ref44_Note)).project).length : Int))))) then (bif ((decide ((0 : Int) ≤ v1) && decide (v1 < (v0.length : Int))) || !(!(bif (decide ((200 : Int) < (((List.getD v0 (Int.toNat v1) (dflt .ref44_Note)).project).length : Int))) then true else (decide ((200 : Int) < ((((List.getD v0 (Int.toNat v1) (dflt .ref44_Note)).call).name).length : Int)))))) then (bif ((decide ((0 : Int) ≤ v1) && decide (v1 < (v0.length : Int))) || !(!(bif (bif (decide ((200 : Int) < (((List.getD v0 (Int.toNat v1) (dflt .ref44_Note)).project).length : Int))) then true else (decide ((200 : Int) < ((((List.getD v0 (Int.toNat v1) (dflt .ref44_Note)).call).name).length : Int)))) then true else (decide ((200 : Int) < (((((List.getD v0 (Int.toNat v1) (dflt .ref44_Note)).call).spec).name).length : Int)))))) then (bif ((decide ((0 : Int) ≤ v1) && decide (v1 < (v0.length : Int))) || !(!(bif (bif (bif (decide ((200 : Int) < (((List.getD v0 (Int.toNat v1) (dflt .ref44_Note)).project).length : Int))) then true else (decide ((200 : Int) < ((((List.getD v0 (Int.toNat v1) (dflt .ref44_Note)).call).name).length : Int)))) then true else (decide ((200 : Int) < (((((List.getD v0 (Int.toNat v1) (dflt .ref44_Note)).call).spec).name).length : Int)))) then true else (decide ((10 : Int) < (((((List.getD v0 (Int.toNat v1) (dflt .ref44_Note)).call).spec).nets).length : Int)))))) then (bif (bif (bif (bif (bif (decide ((200 : Int) < (((List.getD v0 (Int.toNat v1) (dflt .ref44_Note)).project).length : Int))) then true else (decide ((200 : Int) < ((((List.getD v0 (Int.toNat v1) (dflt .ref44_Note)).call).name).length : Int)))) then true else (decide ((200 : Int) < (((((List.getD v0 (Int.toNat v1) (dflt .ref44_Note)).call).spec).name).length : Int)))) then true else (decide ((10 : Int) < (((((List.getD v0 (Int.toNat v1) (dflt .ref44_Note)).call).spec).nets).length : Int)))) then true else (decide ((10 : Int) < (((((List.getD v0 (Int.toNat v1) (dflt .ref44_Note)).call).spec).vols).length : Int)))) then some [⟨.bool, false⟩] else G 0 (few_C0 v0 (w64 (v1 + (1 : Int))))) else none) else none) else none) else none) else none) else some [⟨.bool, true⟩]
theorem few_l0 (G : Nat → ASt E → Option (List (TV E))) (v0 : List Note) (v1 : Int) : runL few_O few_H G Tryz.f4 0 (few_C0 v0 v1) = few_t0 G v0 v1 := by kernel_rfl
theorem few_f : Tryz.prog.funcs[4]? = some Tryz.f4 := by kernel_rfl
theorem few_n : (Tryz.f4.name == "runtime.NumGoroutine") = false := by kernel_rfl
theorem few_b : Tryz.f4.body.isNone = false := by kernel_rfl
theorem few_hO : OracleOk E few_O := orac_ok .nil .nil .nil .nil
theorem few_s0 {res : List (TV E)} {v0 : List Note} {v1 : Int} (h : few_t0 (Gr E Tryz.f4 res) v0 v1 = some res) : Ev E Tryz.f4 res 0 (few_C0 v0 v1) := Ev.step few_hO mix ((few_l0 _ v0 v1).trans h)
theorem few_ok_of (h : ∀ (x0 : List Note) (x1 : Int), okFew x0 x1 = true → few_t (Gr E Tryz.f4 [⟨.bool, fewV x0 x1⟩]) x0 x1 = some [⟨.bool, fewV x0 x1⟩]) : FnOk E few_id few_W := fn2_ok few_hO mix few_f few_n few_b (fun x0 x1 hk => (few_e _ x0 x1).trans (h x0 x1 hk))
theorem few_0 (l : List Note) (hl : l.length ≤ 1000000) : ∀ (m i : Nat), l.length - i = m → i ≤ l.length → Ev E Tryz.f4 [⟨.bool, (l.drop i).all fun x => !(longN x)⟩] 0 (few_C0 l i) := by
  intro m
  induction m with
  | zero =>
    intro i hi hle
    refine few_s0 ?_
    simp only [few_t0, dge (show l.length ≤ i by omega), cond_false, List.drop_eq_nil_of_le (show l.length ≤ i by omega)]
    rfl
  | succ m ih =>
    intro i hi hle
    have h : i < l.length := by omega
    have next := ih (i + 1) (by omega) (by omega)
    refine few_s0 ?_
    rw [List.drop_eq_getElem_cons h, List.all_cons]
    simp only [few_t0, dlt h, d0, Bool.and_self, Bool.true_or, cond_true, gd l (dflt .ref44_Note) i h, w1 (show i ≤ 1000000 by omega)]
    have e : (bif (longN l[i]) then some [⟨.bool, false⟩] else Gr E Tryz.f4 [⟨.bool, (!(longN l[i]) && (l.drop (i + 1)).all fun x => !(longN x))⟩] 0 (few_C0 l ((i + 1 : Nat) : Int))) = some ([⟨.bool, (!(longN l[i]) && (l.drop (i + 1)).all fun x => !(longN x))⟩] : List (TV E)) := by
      cases longN l[i] with
      | true => rfl
      | false => exact Gr_of next
    exact e
theorem few_ok : FnOk E few_id few_W := few_ok_of fun l m hk => by
  simp only [okFew, decide_eq_true_eq] at hk
  unfold few_t fewV
  by_cases h : m < (l.length : Int)
  · rw [dT h]; rfl
  · rw [dF h, cond_false, cond_false]
    have := few_0 l (by omega) _ 0 rfl (Nat.zero_le _)
    rw [List.drop_zero] at this
    exact Gr_of this
def okLn (l : List Note) : Bool := decide (l.length ≤ 100000)
def okL (l : List Note) (_ : Int) : Bool := okLn l
def ofV (l : List Note) (k : Int) : List Note := l.filter fun n => n.kind == k
theorem note_eta (x : Note) : (⟨x.at_, x.kind, x.project, ⟨x.call.kind, x.call.name, x.call.id, ⟨x.call.spec.name, x.call.spec.project, x.call.spec.service, x.call.spec.number, x.call.spec.hash, x.call.spec.nets, x.call.spec.vols, x.call.spec.health, x.call.spec.restart, x.call.spec.tries⟩⟩, x.id, x.what, x.e⟩ : Note) = x := rfl
noncomputable def eof_W : FnW E := fn2 (E := E) .l_event_Note .int .l_event_Note okL ofV
def eof_id : FuncId := 14
noncomputable def eof_O : Oracle E := orac [] [] [] []
noncomputable def eof_H : Hint E := Hint.mk [(0, [1, 5, 8, 9, 10])] [] [(0, [(5, none, true, .event_Note)])] [] [] 5 []
noncomputable def eof_C0 (v0 : Int) (v1 v2 : List Note) (v3 v4 : Int) : ASt E := ASt.mk 24 [(1, .d (.int .i64 v0)), (5, .grow .event_Note v1 0), (8, .d (.slice .event_Note v2)), (9, .d (.int .i64 v3)), (10, .d (.int .i64 v4))] [(0, .tail true)] 1
noncomputable def eof_t (G : Nat → ASt E → Option (List (TV E))) (x0 : List Note) (x1 : Int) : Option (List (TV E)) :=
  G 0 (eof_C0 x1 ([] : List Note) x0 (x0.length : Int) 0)
theorem eof_e (G : Nat → ASt E → Option (List (TV E))) (x0 : List Note) (x1 : Int) : runE eof_O eof_H G Tryz.f14 [⟨.l_event_Note, x0⟩, ⟨.int, x1⟩] = eof_t G x0 x1 := by kernel_rfl
noncomputable def eof_t0 (G : Nat → ASt E → Option (List (TV E))) (v0 : Int) (v1 v2 : List Note) (v3 v4 : Int) : Option (List (TV E)) :=
  bif (decide (v4 < v3)) then (bif (decide ((0 : Int) ≤ v4) && decide (v4 < (v2.length : Int))) then (bif ((List.getD v2 (Int.toNat v4) (dflt .event_Note)).kind == v0) then (bif (decide ((v1.length + ([(⟨(List.getD v2 (Int.toNat v4) (dflt .event_Note)).at_, (List.getD v2 (Int.toNat v4) (dflt .event_Note)).kind, (List.getD v2 (Int.toNat v4) (dflt .event_Note)).project, ⟨((List.getD v2 (Int.toNat v4) (dflt .event_Note)).call).kind, ((List.getD v2 (Int.toNat v4) (dflt .event_Note)).call).name, ((List.getD v2 (Int.toNat v4) (dflt .event_Note)).call).id, ⟨(((List.getD v2 (Int.toNat v4) (dflt .event_Note)).call).spec).name, (((List.getD v2 (Int.toNat v4) (dflt .event_Note)).call).spec).project, (((List.getD v2 (Int.toNat v4) (dflt .event_Note)).call).spec).service, (((List.getD v2 (Int.toNat v4) (dflt .event_Note)).call).spec).number, (((List.getD v2 (Int.toNat v4) (dflt .event_Note)).call).spec).hash, (((List.getD v2 (Int.toNat v4) (dflt .event_Note)).call).spec).nets, (((List.getD v2 (Int.toNat v4) (dflt .event_Note)).call).spec).vols, ((((List.getD v2 (Int.toNat v4) (dflt .event_Note)).call).spec).health), (((List.getD v2 (Int.toNat v4) (dflt .event_Note)).call).spec).restart, (((List.getD v2 (Int.toNat v4) (dflt .event_Note)).call).spec).tries⟩⟩, (List.getD v2 (Int.toNat v4) (dflt .event_Note)).id, (List.getD v2 (Int.toNat v4) (dflt .event_Note)).what, (List.getD v2 (Int.toNat v4) (dflt .event_Note)).e⟩ : Note)] : List Note).length) * 264 ≤ maxBytes)) then G 0 (eof_C0 v0 (v1 ++ ([(⟨(List.getD v2 (Int.toNat v4) (dflt .event_Note)).at_, (List.getD v2 (Int.toNat v4) (dflt .event_Note)).kind, (List.getD v2 (Int.toNat v4) (dflt .event_Note)).project, ⟨((List.getD v2 (Int.toNat v4) (dflt .event_Note)).call).kind, ((List.getD v2 (Int.toNat v4) (dflt .event_Note)).call).name, ((List.getD v2 (Int.toNat v4) (dflt .event_Note)).call).id, ⟨(((List.getD v2 (Int.toNat v4) (dflt .event_Note)).call).spec).name, (((List.getD v2 (Int.toNat v4) (dflt .event_Note)).call).spec).project, (((List.getD v2 (Int.toNat v4) (dflt .event_Note)).call).spec).service, (((List.getD v2 (Int.toNat v4) (dflt .event_Note)).call).spec).number, (((List.getD v2 (Int.toNat v4) (dflt .event_Note)).call).spec).hash, (((List.getD v2 (Int.toNat v4) (dflt .event_Note)).call).spec).nets, (((List.getD v2 (Int.toNat v4) (dflt .event_Note)).call).spec).vols, ((((List.getD v2 (Int.toNat v4) (dflt .event_Note)).call).spec).health), (((List.getD v2 (Int.toNat v4) (dflt .event_Note)).call).spec).restart, (((List.getD v2 (Int.toNat v4) (dflt .event_Note)).call).spec).tries⟩⟩, (List.getD v2 (Int.toNat v4) (dflt .event_Note)).id, (List.getD v2 (Int.toNat v4) (dflt .event_Note)).what, (List.getD v2 (Int.toNat v4) (dflt .event_Note)).e⟩ : Note)] : List Note)) v2 v3 (w64 (v4 + (1 : Int)))) else none) else G 0 (eof_C0 v0 v1 v2 v3 (w64 (v4 + (1 : Int))))) else none) else some [⟨.l_event_Note, v1⟩]
theorem eof_l0 (G : Nat → ASt E → Option (List (TV E))) (v0 : Int) (v1 v2 : List Note) (v3 v4 : Int) : runL eof_O eof_H G Tryz.f14 0 (eof_C0 v0 v1 v2 v3 v4) = eof_t0 G v0 v1 v2 v3 v4 := by kernel_rfl
theorem eof_f : Tryz.prog.funcs[14]? = some Tryz.f14 := by kernel_rfl
theorem eof_n : (Tryz.f14.name == "runtime.NumGoroutine") = false := by kernel_rfl
theorem eof_b : Tryz.f14.body.isNone = false := by kernel_rfl
theorem eof_hO : OracleOk E eof_O := orac_ok .nil .nil .nil .nil
theorem eof_s0 {res : List (TV E)} {v0 : Int} {v1 v2 : List Note} {v3 v4 : Int} (h : eof_t0 (Gr E Tryz.f14 res) v0 v1 v2 v3 v4 = some res) : Ev E Tryz.f14 res 0 (eof_C0 v0 v1 v2 v3 v4) := Ev.step eof_hO mix ((eof_l0 _ v0 v1 v2 v3 v4).trans h)
theorem eof_ok_of (h : ∀ (x0 : List Note) (x1 : Int), okL x0 x1 = true → eof_t (Gr E Tryz.f14 [⟨.l_event_Note, ofV x0 x1⟩]) x0 x1 = some [⟨.l_event_Note, ofV x0 x1⟩]) : FnOk E eof_id eof_W := fn2_ok eof_hO mix eof_f eof_n eof_b (fun x0 x1 hk => (eof_e _ x0 x1).trans (h x0 x1 hk))
theorem eof_0 (l : List Note) (k : Int) (hl : l.length ≤ 100000) : ∀ (m i : Nat) (acc : List Note), l.length - i = m → i ≤ l.length → acc.length ≤ i → Ev E Tryz.f14 [⟨.l_event_Note, acc ++ ofV (l.drop i) k⟩] 0 (eof_C0 k acc l l.length i) := by
  intro m
  induction m with
  | zero =>
    intro i acc hi hle ha
    refine eof_s0 ?_
    simp only [eof_t0, dge (show l.length ≤ i by omega), cond_false, List.drop_eq_nil_of_le (show l.length ≤ i by omega)]
    simp [ofV]
  | succ m ih =>
    intro i acc hi hle ha
    have h : i < l.length := by omega
    refine eof_s0 ?_
    rw [List.drop_eq_getElem_cons h]
    simp only [eof_t0, dlt h, d0, Bool.and_self, cond_true, gd l (dflt .event_Note) i h, w1 (show i ≤ 1000000 by omega), note_eta]
    unfold ofV
    rw [List.filter_cons]
    cases hk : l[i].kind == k with
    | true =>
      have next := ih (i + 1) (acc ++ [l[i]]) (by omega) (by omega) (by simp; omega)
      have hm : decide ((acc.length + [l[i]].length) * 264 ≤ maxBytes) = true := dT (by rw [mb]; simp; omega)
      rw [hm, if_pos rfl]
      rw [List.append_assoc] at next
      exact Gr_of next
    | false =>
      rw [if_neg (by simp)]
      exact Gr_of (ih (i + 1) acc (by omega) (by omega) (by omega))
theorem eof_ok : FnOk E eof_id eof_W := eof_ok_of fun l k hk => by
  have := eof_0 l k (of_decide_eq_true hk) _ 0 [] rfl (Nat.zero_le _) (Nat.zero_le _)
  rw [List.drop_zero, List.nil_append] at this
  exact Gr_of this
def wntB (id : Int) (n : Note) : Bool := bif n.id == id then (bif n.what == 2 then true else n.what == 3) else false
def badB (n : Note) : Bool := n.what == 3
def pkV (l : List Note) (id : Int) : List Bool := (l.filter (wntB id)).map badB
def ansV (l : List Note) (id : Int) : List Bool := pkV (ofV l 7) id
noncomputable def aans_W : FnW E := fn2 (E := E) .l_event_Note .int .l_bool okL ansV
def aans_id : FuncId := 6
noncomputable def aans_O : Oracle E := orac [(14, eof_W)] [] [] []
noncomputable def aans_H : Hint E := Hint.mk [(0, [1, 5, 9, 10, 11])] [] [(0, [(5, none, true, .bool)])] [] [] 5 []
noncomputable def aans_C0 (v0 : Int) (v1 : List Bool) (v2 : List Note) (v3 v4 : Int) : ASt E := ASt.mk 37 [(1, .d (.int .i64 v0)), (5, .grow .bool v1 0), (9, .d (.slice .event_Note v2)), (10, .d (.int .i64 v3)), (11, .d (.int .i64 v4))] [(0, .tail true)] 1
noncomputable def aans_t (G : Nat → ASt E → Option (List (TV E))) (x0 : List Note) (x1 : Int) : Option (List (TV E)) :=
  bif (okL x0 7) then G 0 (aans_C0 x1 ([] : List Bool) (ofV x0 7) ((ofV x0 7).length : Int) 0) else none
theorem aans_e (G : Nat → ASt E → Option (List (TV E))) (x0 : List Note) (x1 : Int) : runE aans_O aans_H G Tryz.f6 [⟨.l_event_Note, x0⟩, ⟨.int, x1⟩] = aans_t G x0 x1 := by kernel_rfl
noncomputable def aans_t0 (G : Nat → ASt E → Option (List (TV E))) (v0 : Int) (v1 : List Bool) (v2 : List Note) (v3 v4 : Int) : Option (List (TV E)) :=
  bif (decide (v4 < v3)) then (bif (decide ((0 : Int) ≤ v4) && decide (v4 < (v2.length : Int))) then (bif (bif ((List.getD v2 (Int.toNat v4) (dflt .event_Note)).id == v0) then (bif ((List.getD v2 (Int.toNat v4) (dflt .event_Note)).what == (2 : Int)) then true else ((List.getD v2 (Int.toNat v4) (dflt .event_Note)).what == (3 : Int))) else false) then (bif (decide ((v1.length + ([((List.getD v2 (Int.toNat v4) (dflt .event_Note)).what == (3 : Int))] : List Bool).length) * 1 ≤ maxBytes)) then G 0 (aans_C0 v0 (v1 ++ ([((List.getD v2 (Int.toNat v4) (dflt .event_Note)).what == (3 : Int))] : List Bool)) v2 v3 (w64 (v4 + (1 : Int)))) else none) else G 0 (aans_C0 v0 v1 v2 v3 (w64 (v4 + (1 : Int))))) else none) else some [⟨.l_bool, v1⟩]
theorem aans_l0 (G : Nat → ASt E → Option (List (TV E))) (v0 : Int) (v1 : List Bool) (v2 : List Note) (v3 v4 : Int) : runL aans_O aans_H G Tryz.f6 0 (aans_C0 v0 v1 v2 v3 v4) = aans_t0 G v0 v1 v2 v3 v4 := by kernel_rfl
theorem aans_f : Tryz.prog.funcs[6]? = some Tryz.f6 := by kernel_rfl
theorem aans_n : (Tryz.f6.name == "runtime.NumGoroutine") = false := by kernel_rfl
theorem aans_b : Tryz.f6.body.isNone = false := by kernel_rfl
theorem aans_hO : OracleOk E aans_O := orac_ok (.cons eof_ok .nil) .nil .nil .nil
theorem aans_s0 {res : List (TV E)} {v0 : Int} {v1 : List Bool} {v2 : List Note} {v3 v4 : Int} (h : aans_t0 (Gr E Tryz.f6 res) v0 v1 v2 v3 v4 = some res) : Ev E Tryz.f6 res 0 (aans_C0 v0 v1 v2 v3 v4) := Ev.step aans_hO mix ((aans_l0 _ v0 v1 v2 v3 v4).trans h)
theorem aans_ok_of (h : ∀ (x0 : List Note) (x1 : Int), okL x0 x1 = true → aans_t (Gr E Tryz.f6 [⟨.l_bool, ansV x0 x1⟩]) x0 x1 = some [⟨.l_bool, ansV x0 x1⟩]) : FnOk E aans_id aans_W := fn2_ok aans_hO mix aans_f aans_n aans_b (fun x0 x1 hk => (aans_e _ x0 x1).trans (h x0 x1 hk))
theorem aans_0 (l : List Note) (id : Int) (hl : l.length ≤ 100000) : ∀ (m i : Nat) (acc : List Bool), l.length - i = m → i ≤ l.length → acc.length ≤ i → Ev E Tryz.f6 [⟨.l_bool, acc ++ pkV (l.drop i) id⟩] 0 (aans_C0 id acc l l.length i) := by
  intro m
  induction m with
  | zero =>
    intro i acc hi hle ha
    refine aans_s0 ?_
    simp only [aans_t0, dge (show l.length ≤ i by omega), cond_false, List.drop_eq_nil_of_le (show l.length ≤ i by omega)]
    simp [pkV]
  | succ m ih =>
    intro i acc hi hle ha
    have h : i < l.length := by omega
    refine aans_s0 ?_
    rw [List.drop_eq_getElem_cons h]
    simp only [aans_t0, dlt h, d0, Bool.and_self, cond_true, gd l (dflt .event_Note) i h, w1 (show i ≤ 1000000 by omega)]
    have e : (bif (wntB id l[i]) then (bif (decide ((acc.length + ([badB l[i]] : List Bool).length) * 1 ≤ maxBytes)) then Gr E Tryz.f6 [⟨.l_bool, acc ++ pkV (l[i] :: l.drop (i + 1)) id⟩] 0 (aans_C0 id (acc ++ [badB l[i]]) l l.length ((i + 1 : Nat) : Int)) else none) else Gr E Tryz.f6 [⟨.l_bool, acc ++ pkV (l[i] :: l.drop (i + 1)) id⟩] 0 (aans_C0 id acc l l.length ((i + 1 : Nat) : Int))) = some ([⟨.l_bool, acc ++ pkV (l[i] :: l.drop (i + 1)) id⟩] : List (TV E)) := by
      unfold pkV
      rw [List.filter_cons]
      cases hk : wntB id l[i] with
      | true =>
        have next := ih (i + 1) (acc ++ [badB l[i]]) (by omega) (by omega) (by simp; omega)
        have hm : decide ((acc.length + ([badB l[i]] : List Bool).length) * 1 ≤ maxBytes) = true := dT (by rw [mb]; simp; omega)
        rw [hm, if_pos rfl, List.map_cons]
        rw [List.append_assoc] at next
        exact Gr_of next
      | false =>
        rw [if_neg (by simp)]
        exact Gr_of (ih (i + 1) acc (by omega) (by omega) (by omega))
    exact e
theorem ofV_len (l : List Note) (k : Int) : (ofV l k).length ≤ l.length := List.length_filter_le _ _
theorem aans_ok : FnOk E aans_id aans_W := aans_ok_of fun l id hk => by
  have hl : l.length ≤ 100000 := of_decide_eq_true hk
  have h2 := ofV_len l 7
  have h3 : okL l 7 = true := hk
  simp only [aans_t, h3, cond_true]
  have := aans_0 (ofV l 7) id (by omega) _ 0 [] rfl (Nat.zero_le _) (Nat.zero_le _)
  rw [List.drop_zero, List.nil_append] at this
  exact Gr_of this
def wntR (id : Int) (n : Note) : Bool := bif (bif n.kind == 7 then n.id == id else false) then (bif n.what == 2 then true else n.what == 3) else false
def pkR (l : List Note) (id : Int) : List Bool := (l.filter (wntR id)).map badB
theorem wntR_eq (id : Int) (n : Note) : wntR id n = (wntB id n && (n.kind == 7)) := by
  unfold wntR wntB
  cases n.kind == 7 <;> cases n.id == id <;> cases n.what == 2 <;> cases n.what == 3 <;> rfl
theorem pkR_eq (l : List Note) (id : Int) : pkR l id = ansV l id := by
  unfold pkR ansV pkV ofV
  rw [List.filter_filter]
  congr 1
  exact List.filter_congr fun x _ => wntR_eq id x
noncomputable def rans_W : FnW E := fn2 (E := E) .l_ref44_Note .int .l_bool okL ansV
def rans_id : FuncId := 7
noncomputable def rans_O : Oracle E := orac [] [] [] []
noncomputable def rans_H : Hint E := Hint.mk [(0, [0, 1, 5, 6])] [] [] [] [] 5 []
noncomputable def rans_C0 (v0 : List Note) (v1 : Int) (v2 : Nat) (v3 : Int) (v4 : List Bool) : ASt E := ASt.mk 55 [(0, .d (.slice .ref44_Note v0)), (1, .d (.int .i64 v1)), (5, .row .bool v2 0), (6, .d (.int .i64 v3))] [(0, .row .bool v4)] 1
noncomputable def rans_t (G : Nat → ASt E → Option (List (TV E))) (x0 : List Note) (x1 : Int) : Option (List (TV E)) :=
  G 0 (rans_C0 x0 x1 0 0 ([] : List Bool))
theorem rans_e (G : Nat → ASt E → Option (List (TV E))) (x0 : List Note) (x1 : Int) : runE rans_O rans_H G Tryz.f7 [⟨.l_ref44_Note, x0⟩, ⟨.int, x1⟩] = rans_t G x0 x1 := by kernel_rfl
noncomputable def rans_t0 (G : Nat → ASt E → Option (List (TV E))) (v0 : List Note) (v1 : Int) (v2 : Nat) (v3 : Int) (v4 : List Bool) : Option (List (TV E)) :=
  bif (decide (v3 < (v0.length : Int))) then (bif (decide ((0 : Int) ≤ v3) && decide (v3 < (v0.length : Int))) then (bif ((decide ((0 : Int) ≤ v3) && decide (v3 < (v0.length : Int))) || !((List.getD v0 (Int.toNat v3) (dflt .ref44_Note)).kind == (7 : Int))) then (bif ((decide ((0 : Int) ≤ v3) && decide (v3 < (v0.length : Int))) || !(bif ((List.getD v0 (Int.toNat v3) (dflt .ref44_Note)).kind == (7 : Int)) then ((List.getD v0 (Int.toNat v3) (dflt .ref44_Note)).id == v1) else false)) then (bif ((decide ((0 : Int) ≤ v3) && decide (v3 < (v0.length : Int))) || !((bif ((List.getD v0 (Int.toNat v3) (dflt .ref44_Note)).kind == (7 : Int)) then ((List.getD v0 (Int.toNat v3) (dflt .ref44_Note)).id == v1) else false) && (!((List.getD v0 (Int.toNat v3) (dflt .ref44_Note)).what == (2 : Int))))) then (bif (bif (bif ((List.getD v0 (Int.toNat v3) (dflt .ref44_Note)).kind == (7 : Int)) then ((List.getD v0 (Int.toNat v3) (dflt .ref44_Note)).id == v1) else false) then (bif ((List.getD v0 (Int.toNat v3) (dflt .ref44_Note)).what == (2 : Int)) then true else ((List.getD v0 (Int.toNat v3) (dflt .ref44_Note)).what == (3 : Int))) else false) then (bif (decide ((0 : Int) ≤ v3) && decide (v3 < (v0.length : Int))) then (bif (decide ((v4.length + ([((List.getD v0 (Int.toNat v3) (dflt .ref44_Note)).what == (3 : Int))] : List Bool).length) * 1 ≤ maxBytes)) then G 0 (rans_C0 v0 v1 (v4.length + ([((List.getD v0 (Int.toNat v3) (dflt .ref44_Note)).what == (3 : Int))] : List Bool).length) (w64 (v3 + (1 : Int))) (v4 ++ ([((List.getD v0 (Int.toNat v3) (dflt .ref44_Note)).what == (3 : Int))] : List Bool))) else none) else none) else G 0 (rans_C0 v0 v1 v2 (w64 (v3 + (1 : Int))) v4)) else none) else none) else none) else none) else some [⟨.l_bool, v4⟩]
theorem rans_l0 (G : Nat → ASt E → Option (List (TV E))) (v0 : List Note) (v1 : Int) (v2 : Nat) (v3 : Int) (v4 : List Bool) : runL rans_O rans_H G Tryz.f7 0 (rans_C0 v0 v1 v2 v3 v4) = rans_t0 G v0 v1 v2 v3 v4 := by kernel_rfl
theorem rans_f : Tryz.prog.funcs[7]? = some Tryz.f7 := by kernel_rfl
theorem rans_n : (Tryz.f7.name == "runtime.NumGoroutine") = false := by kernel_rfl
theorem rans_b : Tryz.f7.body.isNone = false := by kernel_rfl
theorem rans_hO : OracleOk E rans_O := orac_ok .nil .nil .nil .nil
theorem rans_s0 {res : List (TV E)} {v0 : List Note} {v1 : Int} {v2 : Nat} {v3 : Int} {v4 : List Bool} (h : rans_t0 (Gr E Tryz.f7 res) v0 v1 v2 v3 v4 = some res) : Ev E Tryz.f7 res 0 (rans_C0 v0 v1 v2 v3 v4) := Ev.step rans_hO mix ((rans_l0 _ v0 v1 v2 v3 v4).trans h)
theorem rans_ok_of (h : ∀ (x0 : List Note) (x1 : Int), okL x0 x1 = true → rans_t (Gr E Tryz.f7 [⟨.l_bool, ansV x0 x1⟩]) x0 x1 = some [⟨.l_bool, ansV x0 x1⟩]) : FnOk E rans_id rans_W := fn2_ok rans_hO mix rans_f rans_n rans_b (fun x0 x1 hk => (rans_e _ x0 x1).trans (h x0 x1 hk))
theorem rans_0 (l : List Note) (id : Int) (hl : l.length ≤ 100000) : ∀ (m i : Nat) (acc : List Bool), l.length - i = m → i ≤ l.length → acc.length ≤ i → Ev E Tryz.f7 [⟨.l_bool, acc ++ pkR (l.drop i) id⟩] 0 (rans_C0 l id acc.length i acc) := by
  intro m
  induction m with
  | zero =>
    intro i acc hi hle ha
    refine rans_s0 ?_
    simp only [rans_t0, dge (show l.length ≤ i by omega), cond_false, List.drop_eq_nil_of_le (show l.length ≤ i by omega)]
    simp [pkR]
  | succ m ih =>
    intro i acc hi hle ha
    have h : i < l.length := by omega
    refine rans_s0 ?_
    rw [List.drop_eq_getElem_cons h]
    simp only [rans_t0, dlt h, d0, Bool.and_self, Bool.true_or, cond_true, gd l (dflt .ref44_Note) i h, w1 (show i ≤ 1000000 by omega)]
    have e : (bif (wntR id l[i]) then (bif (decide ((acc.length + ([badB l[i]] : List Bool).length) * 1 ≤ maxBytes)) then Gr E Tryz.f7 [⟨.l_bool, acc ++ pkR (l[i] :: l.drop (i + 1)) id⟩] 0 (rans_C0 l id (acc.length + ([badB l[i]] : List Bool).length) ((i + 1 : Nat) : Int) (acc ++ [badB l[i]])) else none) else Gr E Tryz.f7 [⟨.l_bool, acc ++ pkR (l[i] :: l.drop (i + 1)) id⟩] 0 (rans_C0 l id acc.length ((i + 1 : Nat) : Int) acc)) = some ([⟨.l_bool, acc ++ pkR (l[i] :: l.drop (i + 1)) id⟩] : List (TV E)) := by
      unfold pkR
      rw [List.filter_cons]
      cases hk : wntR id l[i] with
      | true =>
        have next := ih (i + 1) (acc ++ [badB l[i]]) (by omega) (by omega) (by simp; omega)
        have hm : decide ((acc.length + ([badB l[i]] : List Bool).length) * 1 ≤ maxBytes) = true := dT (by rw [mb]; simp; omega)
        rw [hm, if_pos rfl, List.map_cons]
        rw [List.append_assoc, List.length_append] at next
        exact Gr_of next
      | false =>
        rw [if_neg (by simp)]
        exact Gr_of (ih (i + 1) acc (by omega) (by omega) (by omega))
    exact e
theorem rans_ok : FnOk E rans_id rans_W := rans_ok_of fun l id hk => by
  have := rans_0 l id (of_decide_eq_true hk) _ 0 [] rfl (Nat.zero_le _) (Nat.zero_le _)
  rw [List.drop_zero, List.nil_append, pkR_eq] at this
  exact Gr_of this
theorem pkV_len (l : List Note) (id : Int) : (pkV l id).length ≤ l.length := by
  unfold pkV
  rw [List.length_map]
  exact List.length_filter_le _ _
theorem ansV_len (l : List Note) (id : Int) : (ansV l id).length ≤ l.length := Nat.le_trans (pkV_len _ _) (ofV_len _ _)
def bt (l : List Note) (id : Int) : Int := beat (ansV l id)
theorem small_ans {l : List Note} {id : Int} (h : okL l id = true) : small (ansV l id) = true := by
  have h : l.length ≤ 100000 := of_decide_eq_true h
  have := ansV_len l id
  exact decide_eq_true (by omega)
noncomputable def abeat_W : FnW E := fn2 (E := E) .l_event_Note .int .int okL bt
def abeat_id : FuncId := 10
noncomputable def abeat_O : Oracle E := orac [(6, aans_W), (15, wbeat_W)] [] [] []
noncomputable def abeat_H : Hint E := Hint.mk [] [] [] [] [] 5 []
noncomputable def abeat_t (_G : Nat → ASt E → Option (List (TV E))) (x0 : List Note) (x1 : Int) : Option (List (TV E)) :=
  bif (okL x0 x1) then (bif (small (ansV x0 x1)) then some [⟨.int, (beat (ansV x0 x1))⟩] else none) else none
theorem abeat_e (G : Nat → ASt E → Option (List (TV E))) (x0 : List Note) (x1 : Int) : runE abeat_O abeat_H G Tryz.f10 [⟨.l_event_Note, x0⟩, ⟨.int, x1⟩] = abeat_t G x0 x1 := by kernel_rfl
theorem abeat_f : Tryz.prog.funcs[10]? = some Tryz.f10 := by kernel_rfl
theorem abeat_n : (Tryz.f10.name == "runtime.NumGoroutine") = false := by kernel_rfl
theorem abeat_b : Tryz.f10.body.isNone = false := by kernel_rfl
theorem abeat_hO : OracleOk E abeat_O := orac_ok (.cons aans_ok (.cons wbeat_ok .nil)) .nil .nil .nil
theorem abeat_ok_of (h : ∀ (x0 : List Note) (x1 : Int), okL x0 x1 = true → abeat_t (Gr E Tryz.f10 [⟨.int, bt x0 x1⟩]) x0 x1 = some [⟨.int, bt x0 x1⟩]) : FnOk E abeat_id abeat_W := fn2_ok abeat_hO mix abeat_f abeat_n abeat_b (fun x0 x1 hk => (abeat_e _ x0 x1).trans (h x0 x1 hk))
theorem abeat_ok : FnOk E abeat_id abeat_W := abeat_ok_of fun l id hk => by
  simp only [abeat_t, hk, small_ans hk, cond_true]; rfl
noncomputable def rbt_W : FnW E := fn2 (E := E) .l_ref44_Note .int .int okL bt
def rbt_id : FuncId := 11
noncomputable def rbt_O : Oracle E := orac [(16, rbeat_W), (7, rans_W)] [] [] []
noncomputable def rbt_H : Hint E := Hint.mk [] [] [] [] [] 5 []
noncomputable def rbt_t (_G : Nat → ASt E → Option (List (TV E))) (x0 : List Note) (x1 : Int) : Option (List (TV E)) :=
  bif (okL x0 x1) then (bif (small (ansV x0 x1)) then some [⟨.int, (beat (ansV x0 x1))⟩] else none) else none
theorem rbt_e (G : Nat → ASt E → Option (List (TV E))) (x0 : List Note) (x1 : Int) : runE rbt_O rbt_H G Tryz.f11 [⟨.l_ref44_Note, x0⟩, ⟨.int, x1⟩] = rbt_t G x0 x1 := by kernel_rfl
theorem rbt_f : Tryz.prog.funcs[11]? = some Tryz.f11 := by kernel_rfl
theorem rbt_n : (Tryz.f11.name == "runtime.NumGoroutine") = false := by kernel_rfl
theorem rbt_b : Tryz.f11.body.isNone = false := by kernel_rfl
theorem rbt_hO : OracleOk E rbt_O := orac_ok (.cons rbeat_ok (.cons rans_ok .nil)) .nil .nil .nil
theorem rbt_ok_of (h : ∀ (x0 : List Note) (x1 : Int), okL x0 x1 = true → rbt_t (Gr E Tryz.f11 [⟨.int, bt x0 x1⟩]) x0 x1 = some [⟨.int, bt x0 x1⟩]) : FnOk E rbt_id rbt_W := fn2_ok rbt_hO mix rbt_f rbt_n rbt_b (fun x0 x1 hk => (rbt_e _ x0 x1).trans (h x0 x1 hk))
theorem rbt_ok : FnOk E rbt_id rbt_W := rbt_ok_of fun l id hk => by
  simp only [rbt_t, hk, small_ans hk, cond_true]; rfl
def inc (b : Bool) (x : Int) : Int := bif b then w64 (x + 1) else x
def fltB (n : Note) : Bool := bif (bif n.kind == 2 then true else n.kind == 4) then n.e == 15 else false
def tstep (s : Int × Tally) (n : Note) : Int × Tally :=
  (bif fltB n then w64 (s.1 + 1) else bif n.kind == 2 then 0 else s.1,
    ⟨inc (bif n.kind == 2 then n.e == 0 else false) s.2.calls, inc (fltB n) s.2.faults, bif fltB n then (bif decide (s.2.row < w64 (s.1 + 1)) then w64 (s.1 + 1) else s.2.row) else s.2.row,
      inc (n.kind == 3) s.2.waits, inc (n.kind == 4) s.2.overs, inc (n.kind == 8) s.2.crashes, inc (n.kind == 9) s.2.others⟩)
def tally (l : List Note) : Tally := (l.foldl tstep (0, ⟨0, 0, 0, 0, 0, 0, 0⟩)).2
theorem kinds (k : Int) : ((k == 2) = true ∧ (k == 3) = false ∧ (k == 4) = false ∧ (k == 8) = false ∧ (k == 9) = false) ∨ ((k == 2) = false ∧ (k == 3) = true ∧ (k == 4) = false ∧ (k == 8) = false ∧ (k == 9) = false) ∨
    ((k == 2) = false ∧ (k == 3) = false ∧ (k == 4) = true ∧ (k == 8) = false ∧ (k == 9) = false) ∨ ((k == 2) = false ∧ (k == 3) = false ∧ (k == 4) = false ∧ (k == 8) = true ∧ (k == 9) = false) ∨
    ((k == 2) = false ∧ (k == 3) = false ∧ (k == 4) = false ∧ (k == 8) = false ∧ (k == 9) = true) ∨ ((k == 2) = false ∧ (k == 3) = false ∧ (k == 4) = false ∧ (k == 8) = false ∧ (k == 9) = false) := by
  simp only [beq_iff_eq, beq_eq_false_iff_ne]
  omega
theorem errs (e : Int) : ((e == 15) = true ∧ (e == 0) = false) ∨ ((e == 15) = false ∧ (e == 0) = true) ∨ ((e == 15) = false ∧ (e == 0) = false) := by
  simp only [beq_iff_eq, beq_eq_false_iff_ne]
  omega
noncomputable def acount_W : FnW E := fn1 (E := E) .l_event_Note .audit_Tally okLn tally
def acount_id : FuncId := 8
noncomputable def acount_O : Oracle E := orac [] [] [] []
noncomputable def acount_H : Hint E := Hint.mk [(0, [2, 3, 4, 8, 9, 10])] [] [] [] [] 5 []
noncomputable def acount_C0 (v0 : Int) (v1 : List Note) (v2 v3 v4 v5 v6 v7 v8 v9 v10 v11 v12 v13 v14 v15 v16 v17 : Int) : ASt E := ASt.mk 79 [(2, .ptr 0 0), (3, .ptr 1 0), (4, .d (.int .i64 v0)), (8, .d (.slice .event_Note v1)), (9, .d (.int .i64 v2)), (10, .d (.int .i64 v3))] [(0, .box [.d (.int .i64 v4), .d (.int .i64 v5), .d (.int .i64 v6), .d (.int .i64 v7), .d (.int .i64 v8), .d (.int .i64 v9), .d (.int .i64 v10)]), (1, .box [.d (.int .i64 v11), .d (.int .i64 v12), .d (.int .i64 v13), .d (.int .i64 v14), .d (.int .i64 v15), .d (.int .i64 v16), .d (.int .i64 v17)])] 2
noncomputable def acount_t (G : Nat → ASt E → Option (List (TV E))) (x0 : List Note) : Option (List (TV E)) :=
  G 0 (acount_C0 0 x0 (x0.length : Int) 0 0 0 0 0 0 0 0 0 0 0 0 0 0 0)
theorem acount_e (G : Nat → ASt E → Option (List (TV E))) (x0 : List Note) : runE acount_O acount_H G Tryz.f8 [⟨.l_event_Note, x0⟩] = acount_t G x0 := by kernel_rfl
noncomputable def acount_t0 (G : Nat → ASt E → Option (List (TV E))) (v0 : Int) (v1 : List Note) (v2 v3 v4 v5 v6 v7 v8 v9 v10 v11 v12 v13 v14 v15 v16 v17 : Int) : Option (List (TV E)) :=
  bif (decide (v3 < v2)) then (bif (decide ((0 : Int) ≤ v3) && decide (v3 < (v1.length : Int))) then (bif (bif (bif ((List.getD v1 (Int.toNat v3) (dflt .event_Note)).kind == (2 : Int)) then true else ((List.getD v1 (Int.toNat v3) (dflt .event_Note)).kind == (4 : Int))) then ((List.getD v1 (Int.toNat v3) (dflt .event_Note)).e == (15 : Int)) else false) then (bif ((List.getD v1 (Int.toNat v3) (dflt .event_Note)).kind == (3 : Int)) then G 0 (acount_C0 (w64 (v0 + (1 : Int))) v1 v2 (w64 (v3 + (1 : Int))) v4 v5 v6 v7 v8 v9 v10 v11 (w64 (v12 + (1 : Int))) (bif decide (v13 < (w64 (v0 + (1 : Int)))) then (w64 (v0 + (1 : Int))) else v13) (w64 (v14 + (1 : Int))) v15 v16 v17) else (bif ((List.getD v1 (Int.toNat v3) (dflt .event_Note)).kind == (4 : Int)) then G 0 (acount_C0 (w64 (v0 + (1 : Int))) v1 v2 (w64 (v3 + (1 : Int))) v4 v5 v6 v7 v8 v9 v10 v11 (w64 (v12 + (1 : Int))) (bif decide (v13 < (w64 (v0 + (1 : Int)))) then (w64 (v0 + (1 : Int))) else v13) v14 (w64 (v15 + (1 : Int))) v16 v17) else (bif ((List.getD v1 (Int.toNat v3) (dflt .event_Note)).kind == (8 : Int)) then G 0 (acount_C0 (w64 (v0 + (1 : Int))) v1 v2 (w64 (v3 + (1 : Int))) v4 v5 v6 v7 v8 v9 v10 v11 (w64 (v12 + (1 : Int))) (bif decide (v13 < (w64 (v0 + (1 : Int)))) then (w64 (v0 + (1 : Int))) else v13) v14 v15 (w64 (v16 + (1 : Int))) v17) else (bif ((List.getD v1 (Int.toNat v3) (dflt .event_Note)).kind == (9 : Int)) then G 0 (acount_C0 (w64 (v0 + (1 : Int))) v1 v2 (w64 (v3 + (1 : Int))) v4 v5 v6 v7 v8 v9 v10 v11 (w64 (v12 + (1 : Int))) (bif decide (v13 < (w64 (v0 + (1 : Int)))) then (w64 (v0 + (1 : Int))) else v13) v14 v15 v16 (w64 (v17 + (1 : Int)))) else G 0 (acount_C0 (w64 (v0 + (1 : Int))) v1 v2 (w64 (v3 + (1 : Int))) v4 v5 v6 v7 v8 v9 v10 v11 (w64 (v12 + (1 : Int))) (bif decide (v13 < (w64 (v0 + (1 : Int)))) then (w64 (v0 + (1 : Int))) else v13) v14 v15 v16 v17))))) else (bif ((List.getD v1 (Int.toNat v3) (dflt .event_Note)).kind == (2 : Int)) then (bif ((List.getD v1 (Int.toNat v3) (dflt .event_Note)).e == (0 : Int)) then (bif ((List.getD v1 (Int.toNat v3) (dflt .event_Note)).kind == (3 : Int)) then G 0 (acount_C0 0 v1 v2 (w64 (v3 + (1 : Int))) v4 v5 v6 v7 v8 v9 v10 (w64 (v11 + (1 : Int))) v12 v13 (w64 (v14 + (1 : Int))) v15 v16 v17) else (bif ((List.getD v1 (Int.toNat v3) (dflt .event_Note)).kind == (4 : Int)) then G 0 (acount_C0 0 v1 v2 (w64 (v3 + (1 : Int))) v4 v5 v6 v7 v8 v9 v10 (w64 (v11 + (1 : Int))) v12 v13 v14 (w64 (v15 + (1 : Int))) v16 v17) else (bif ((List.getD v1 (Int.toNat v3) (dflt .event_Note)).kind == (8 : Int)) then G 0 (acount_C0 0 v1 v2 (w64 (v3 + (1 : Int))) v4 v5 v6 v7 v8 v9 v10 (w64 (v11 + (1 : Int))) v12 v13 v14 v15 (w64 (v16 + (1 : Int))) v17) else (bif ((List.getD v1 (Int.toNat v3) (dflt .event_Note)).kind == (9 : Int)) then G 0 (acount_C0 0 v1 v2 (w64 (v3 + (1 : Int))) v4 v5 v6 v7 v8 v9 v10 (w64 (v11 + (1 : Int))) v12 v13 v14 v15 v16 (w64 (v17 + (1 : Int)))) else G 0 (acount_C0 0 v1 v2 (w64 (v3 + (1 : Int))) v4 v5 v6 v7 v8 v9 v10 (w64 (v11 + (1 : Int))) v12 v13 v14 v15 v16 v17))))) else (bif ((List.getD v1 (Int.toNat v3) (dflt .event_Note)).kind == (3 : Int)) then G 0 (acount_C0 0 v1 v2 (w64 (v3 + (1 : Int))) v4 v5 v6 v7 v8 v9 v10 v11 v12 v13 (w64 (v14 + (1 : Int))) v15 v16 v17) else (bif ((List.getD v1 (Int.toNat v3) (dflt .event_Note)).kind == (4 : Int)) then G 0 (acount_C0 0 v1 v2 (w64 (v3 + (1 : Int))) v4 v5 v6 v7 v8 v9 v10 v11 v12 v13 v14 (w64 (v15 + (1 : Int))) v16 v17) else (bif ((List.getD v1 (Int.toNat v3) (dflt .event_Note)).kind == (8 : Int)) then G 0 (acount_C0 0 v1 v2 (w64 (v3 + (1 : Int))) v4 v5 v6 v7 v8 v9 v10 v11 v12 v13 v14 v15 (w64 (v16 + (1 : Int))) v17) else (bif ((List.getD v1 (Int.toNat v3) (dflt .event_Note)).kind == (9 : Int)) then G 0 (acount_C0 0 v1 v2 (w64 (v3 + (1 : Int))) v4 v5 v6 v7 v8 v9 v10 v11 v12 v13 v14 v15 v16 (w64 (v17 + (1 : Int)))) else G 0 (acount_C0 0 v1 v2 (w64 (v3 + (1 : Int))) v4 v5 v6 v7 v8 v9 v10 v11 v12 v13 v14 v15 v16 v17)))))) else (bif ((List.getD v1 (Int.toNat v3) (dflt .event_Note)).kind == (3 : Int)) then G 0 (acount_C0 v0 v1 v2 (w64 (v3 + (1 : Int))) v4 v5 v6 v7 v8 v9 v10 v11 v12 v13 (w64 (v14 + (1 : Int))) v15 v16 v17) else (bif ((List.getD v1 (Int.toNat v3) (dflt .event_Note)).kind == (4 : Int)) then G 0 (acount_C0 v0 v1 v2 (w64 (v3 + (1 : Int))) v4 v5 v6 v7 v8 v9 v10 v11 v12 v13 v14 (w64 (v15 + (1 : Int))) v16 v17) else (bif ((List.getD v1 (Int.toNat v3) (dflt .event_Note)).kind == (8 : Int)) then G 0 (acount_C0 v0 v1 v2 (w64 (v3 + (1 : Int))) v4 v5 v6 v7 v8 v9 v10 v11 v12 v13 v14 v15 (w64 (v16 + (1 : Int))) v17) else (bif ((List.getD v1 (Int.toNat v3) (dflt .event_Note)).kind == (9 : Int)) then G 0 (acount_C0 v0 v1 v2 (w64 (v3 + (1 : Int))) v4 v5 v6 v7 v8 v9 v10 v11 v12 v13 v14 v15 v16 (w64 (v17 + (1 : Int)))) else G 0 (acount_C0 v0 v1 v2 (w64 (v3 + (1 : Int))) v4 v5 v6 v7 v8 v9 v10 v11 v12 v13 v14 v15 v16 v17))))))) else none) else some [⟨.audit_Tally, (⟨v11, v12, v13, v14, v15, v16, v17⟩ : Tally)⟩]
theorem acount_l0 (G : Nat → ASt E → Option (List (TV E))) (v0 : Int) (v1 : List Note) (v2 v3 v4 v5 v6 v7 v8 v9 v10 v11 v12 v13 v14 v15 v16 v17 : Int) : runL acount_O acount_H G Tryz.f8 0 (acount_C0 v0 v1 v2 v3 v4 v5 v6 v7 v8 v9 v10 v11 v12 v13 v14 v15 v16 v17) = acount_t0 G v0 v1 v2 v3 v4 v5 v6 v7 v8 v9 v10 v11 v12 v13 v14 v15 v16 v17 := by kernel_rfl
theorem acount_f : Tryz.prog.funcs[8]? = some Tryz.f8 := by kernel_rfl
theorem acount_n : (Tryz.f8.name == "runtime.NumGoroutine") = false := by kernel_rfl
theorem acount_b : Tryz.f8.body.isNone = false := by kernel_rfl
theorem acount_hO : OracleOk E acount_O := orac_ok .nil .nil .nil .nil
theorem acount_s0 {res : List (TV E)} {v0 : Int} {v1 : List Note} {v2 v3 v4 v5 v6 v7 v8 v9 v10 v11 v12 v13 v14 v15 v16 v17 : Int} (h : acount_t0 (Gr E Tryz.f8 res) v0 v1 v2 v3 v4 v5 v6 v7 v8 v9 v10 v11 v12 v13 v14 v15 v16 v17 = some res) : Ev E Tryz.f8 res 0 (acount_C0 v0 v1 v2 v3 v4 v5 v6 v7 v8 v9 v10 v11 v12 v13 v14 v15 v16 v17) := Ev.step acount_hO mix ((acount_l0 _ v0 v1 v2 v3 v4 v5 v6 v7 v8 v9 v10 v11 v12 v13 v14 v15 v16 v17).trans h)
theorem acount_ok_of (h : ∀ (x0 : List Note), okLn x0 = true → acount_t (Gr E Tryz.f8 [⟨.audit_Tally, tally x0⟩]) x0 = some [⟨.audit_Tally, tally x0⟩]) : FnOk E acount_id acount_W := fn1_ok acount_hO mix acount_f acount_n acount_b (fun x0 hk => (acount_e _ x0).trans (h x0 hk))
theorem acount_0 (l : List Note) (hl : l.length ≤ 100000) : ∀ (m i : Nat) (s : Int × Tally), l.length - i = m → i ≤ l.length → Ev E Tryz.f8 [⟨.audit_Tally, ((l.drop i).foldl tstep s).2⟩] 0 (acount_C0 s.1 l l.length i 0 0 0 0 0 0 0 s.2.calls s.2.faults s.2.row s.2.waits s.2.overs s.2.crashes s.2.others) := by
  intro m
  induction m with
  | zero =>
    intro i s hi hle
    refine acount_s0 ?_
    simp only [acount_t0, dge (show l.length ≤ i by omega), cond_false, List.drop_eq_nil_of_le (show l.length ≤ i by omega)]
    rfl
  | succ m ih =>
    intro i s hi hle
    have h : i < l.length := by omega
    obtain ⟨row, c, f, r, w, o, x, t⟩ := s
    refine acount_s0 ?_
    rw [List.drop_eq_getElem_cons h, List.foldl_cons]
    have next := Gr_of (ih (i + 1) (tstep (row, ⟨c, f, r, w, o, x, t⟩) l[i]) (by omega) (by omega))
    simp only [acount_t0, dlt h, d0, Bool.and_self, cond_true, gd l (dflt .event_Note) i h, w1 (show i ≤ 1000000 by omega)]
    rcases kinds l[i].kind with ⟨k2, k3, k4, k8, k9⟩ | ⟨k2, k3, k4, k8, k9⟩ | ⟨k2, k3, k4, k8, k9⟩ | ⟨k2, k3, k4, k8, k9⟩ | ⟨k2, k3, k4, k8, k9⟩ | ⟨k2, k3, k4, k8, k9⟩ <;> rcases errs l[i].e with ⟨e15, e0⟩ | ⟨e15, e0⟩ | ⟨e15, e0⟩ <;>
    · simp only [tstep, inc, fltB, k2, k3, k4, k8, k9, e15, e0, cond_true, cond_false] at next ⊢
      exact next
theorem acount_ok : FnOk E acount_id acount_W := acount_ok_of fun l hk => by
  have := acount_0 l (of_decide_eq_true hk) _ 0 (0, ⟨0, 0, 0, 0, 0, 0, 0⟩) rfl (Nat.zero_le _)
  rw [List.drop_zero] at this
  exact Gr_of this
noncomputable def rcount_W : FnW E := fn1 (E := E) .l_ref44_Note .ref47_Tally okLn tally
def rcount_id : FuncId := 9
noncomputable def rcount_O : Oracle E := orac [] [] [] []
noncomputable def rcount_H : Hint E := Hint.mk [(0, [0, 2, 3, 4, 5])] [] [] [] [] 5 []
noncomputable def rcount_C0 (v0 : List Note) (v1 v2 v3 v4 v5 v6 v7 v8 v9 v10 v11 v12 v13 v14 v15 v16 : Int) : ASt E := ASt.mk 87 [(0, .d (.slice .ref44_Note v0)), (2, .ptr 0 0), (3, .ptr 1 0), (4, .d (.int .i64 v1)), (5, .d (.int .i64 v2))] [(0, .box [.d (.int .i64 v3), .d (.int .i64 v4), .d (.int .i64 v5), .d (.int .i64 v6), .d (.int .i64 v7), .d (.int .i64 v8), .d (.int .i64 v9)]), (1, .box [.d (.int .i64 v10), .d (.int .i64 v11), .d (.int .i64 v12), .d (.int .i64 v13), .d (.int .i64 v14), .d (.int .i64 v15), .d (.int .i64 v16)])] 2
noncomputable def rcount_t (G : Nat → ASt E → Option (List (TV E))) (x0 : List Note) : Option (List (TV E)) :=
  G 0 (rcount_C0 x0 0 0 0 0 0 0 0 0 0 0 0 0 0 0 0 0)
theorem rcount_e (G : Nat → ASt E → Option (List (TV E))) (x0 : List Note) : runE rcount_O rcount_H G Tryz.f9 [⟨.l_ref44_Note, x0⟩] = rcount_t G x0 := by kernel_rfl
noncomputable def rcount_t0 (G : Nat → ASt E → Option (List (TV E))) (v0 : List Note) (v1 v2 v3 v4 v5 v6 v7 v8 v9 v10 v11 v12 v13 v14 v15 v16 : Int) : Option (List (TV E)) :=
  bif (decide (v2 < (v0.length : Int))) then (bif (decide ((0 : Int) ≤ v2) && decide (v2 < (v0.length : Int))) then (bif (bif (bif ((List.getD v0 (Int.toNat v2) (dflt .ref44_Note)).kind == (2 : Int)) then true else ((List.getD v0 (Int.toNat v2) (dflt .ref44_Note)).kind == (4 : Int))) then ((List.getD v0 (Int.toNat v2) (dflt .ref44_Note)).e == (15 : Int)) else false) then (bif (decide (v12 < (w64 (v1 + (1 : Int))))) then (bif (bif ((List.getD v0 (Int.toNat v2) (dflt .ref44_Note)).kind == (2 : Int)) then ((List.getD v0 (Int.toNat v2) (dflt .ref44_Note)).e == (0 : Int)) else false) then (bif ((List.getD v0 (Int.toNat v2) (dflt .ref44_Note)).kind == (3 : Int)) then (bif ((List.getD v0 (Int.toNat v2) (dflt .ref44_Note)).kind == (4 : Int)) then (bif ((List.getD v0 (Int.toNat v2) (dflt .ref44_Note)).kind == (8 : Int)) then (bif ((List.getD v0 (Int.toNat v2) (dflt .ref44_Note)).kind == (9 : Int)) then G 0 (rcount_C0 v0 (w64 (v1 + (1 : Int))) (w64 (v2 + (1 : Int))) v3 v4 v5 v6 v7 v8 v9 (w64 (v10 + (1 : Int))) (w64 (v11 + (1 : Int))) (w64 (v1 + (1 : Int))) (w64 (v13 + (1 : Int))) (w64 (v14 + (1 : Int))) (w64 (v15 + (1 : Int))) (w64 (v16 + (1 : Int)))) else G 0 (rcount_C0 v0 (w64 (v1 + (1 : Int))) (w64 (v2 + (1 : Int))) v3 v4 v5 v6 v7 v8 v9 (w64 (v10 + (1 : Int))) (w64 (v11 + (1 : Int))) (w64 (v1 + (1 : Int))) (w64 (v13 + (1 : Int))) (w64 (v14 + (1 : Int))) (w64 (v15 + (1 : Int))) v16)) else (bif ((List.getD v0 (Int.toNat v2) (dflt .ref44_Note)).kind == (9 : Int)) then G 0 (rcount_C0 v0 (w64 (v1 + (1 : Int))) (w64 (v2 + (1 : Int))) v3 v4 v5 v6 v7 v8 v9 (w64 (v10 + (1 : Int))) (w64 (v11 + (1 : Int))) (w64 (v1 + (1 : Int))) (w64 (v13 + (1 : Int))) (w64 (v14 + (1 : Int))) v15 (w64 (v16 + (1 : Int)))) else G 0 (rcount_C0 v0 (w64 (v1 + (1 : Int))) (w64 (v2 + (1 : Int))) v3 v4 v5 v6 v7 v8 v9 (w64 (v10 + (1 : Int))) (w64 (v11 + (1 : Int))) (w64 (v1 + (1 : Int))) (w64 (v13 + (1 : Int))) (w64 (v14 + (1 : Int))) v15 v16))) else (bif ((List.getD v0 (Int.toNat v2) (dflt .ref44_Note)).kind == (8 : Int)) then (bif ((List.getD v0 (Int.toNat v2) (dflt .ref44_Note)).kind == (9 : Int)) then G 0 (rcount_C0 v0 (w64 (v1 + (1 : Int))) (w64 (v2 + (1 : Int))) v3 v4 v5 v6 v7 v8 v9 (w64 (v10 + (1 : Int))) (w64 (v11 + (1 : Int))) (w64 (v1 + (1 : Int))) (w64 (v13 + (1 : Int))) v14 (w64 (v15 + (1 : Int))) (w64 (v16 + (1 : Int)))) else G 0 (rcount_C0 v0 (w64 (v1 + (1 : Int))) (w64 (v2 + (1 : Int))) v3 v4 v5 v6 v7 v8 v9 (w64 (v10 + (1 : Int))) (w64 (v11 + (1 : Int))) (w64 (v1 + (1 : Int))) (w64 (v13 + (1 : Int))) v14 (w64 (v15 + (1 : Int))) v16)) else (bif ((List.getD v0 (Int.toNat v2) (dflt .ref44_Note)).kind == (9 : Int)) then G 0 (rcount_C0 v0 (w64 (v1 + (1 : Int))) (w64 (v2 + (1 : Int))) v3 v4 v5 v6 v7 v8 v9 (w64 (v10 + (1 : Int))) (w64 (v11 + (1 : Int))) (w64 (v1 + (1 : Int))) (w64 (v13 + (1 : Int))) v14 v15 (w64 (v16 + (1 : Int)))) else G 0 (rcount_C0 v0 (w64 (v1 + (1 : Int))) (w64 (v2 + (1 : Int))) v3 v4 v5 v6 v7 v8 v9 (w64 (v10 + (1 : Int))) (w64 (v11 + (1 : Int))) (w64 (v1 + (1 : Int))) (w64 (v13 + (1 : Int))) v14 v15 v16)))) else (bif ((List.getD v0 (Int.toNat v2) (dflt .ref44_Note)).kind == (4 : Int)) then (bif ((List.getD v0 (Int.toNat v2) (dflt .ref44_Note)).kind == (8 : Int)) then (bif ((List.getD v0 (Int.toNat v2) (dflt .ref44_Note)).kind == (9 : Int)) then G 0 (rcount_C0 v0 (w64 (v1 + (1 : Int))) (w64 (v2 + (1 : Int))) v3 v4 v5 v6 v7 v8 v9 (w64 (v10 + (1 : Int))) (w64 (v11 + (1 : Int))) (w64 (v1 + (1 : Int))) v13 (w64 (v14 + (1 : Int))) (w64 (v15 + (1 : Int))) (w64 (v16 + (1 : Int)))) else G 0 (rcount_C0 v0 (w64 (v1 + (1 : Int))) (w64 (v2 + (1 : Int))) v3 v4 v5 v6 v7 v8 v9 (w64 (v10 + (1 : Int))) (w64 (v11 + (1 : Int))) (w64 (v1 + (1 : Int))) v13 (w64 (v14 + (1 : Int))) (w64 (v15 + (1 : Int))) v16)) else (bif ((List.getD v0 (Int.toNat v2) (dflt .ref44_Note)).kind == (9 : Int)) then G 0 (rcount_C0 v0 (w64 (v1 + (1 : Int))) (w64 (v2 + (1 : Int))) v3 v4 v5 v6 v7 v8 v9 (w64 (v10 + (1 : Int))) (w64 (v11 + (1 : Int))) (w64 (v1 + (1 : Int))) v13 (w64 (v14 + (1 : Int))) v15 (w64 (v16 + (1 : Int)))) else G 0 (rcount_C0 v0 (w64 (v1 + (1 : Int))) (w64 (v2 + (1 : Int))) v3 v4 v5 v6 v7 v8 v9 (w64 (v10 + (1 : Int))) (w64 (v11 + (1 : Int))) (w64 (v1 + (1 : Int))) v13 (w64 (v14 + (1 : Int))) v15 v16))) else (bif ((List.getD v0 (Int.toNat v2) (dflt .ref44_Note)).kind == (8 : Int)) then (bif ((List.getD v0 (Int.toNat v2) (dflt .ref44_Note)).kind == (9 : Int)) then G 0 (rcount_C0 v0 (w64 (v1 + (1 : Int))) (w64 (v2 + (1 : Int))) v3 v4 v5 v6 v7 v8 v9 (w64 (v10 + (1 : Int))) (w64 (v11 + (1 : Int))) (w64 (v1 + (1 : Int))) v13 v14 (w64 (v15 + (1 : Int))) (w64 (v16 + (1 : Int)))) else G 0 (rcount_C0 v0 (w64 (v1 + (1 : Int))) (w64 (v2 + (1 : Int))) v3 v4 v5 v6 v7 v8 v9 (w64 (v10 + (1 : Int))) (w64 (v11 + (1 : Int))) (w64 (v1 + (1 : Int))) v13 v14 (w64 (v15 + (1 : Int))) v16)) else (bif ((List.getD v0 (Int.toNat v2) (dflt .ref44_Note)).kind == (9 : Int)) then G 0 (rcount_C0 v0 (w64 (v1 + (1 : Int))) (w64 (v2 + (1 : Int))) v3 v4 v5 v6 v7 v8 v9 (w64 (v10 + (1 : Int))) (w64 (v11 + (1 : Int))) (w64 (v1 + (1 : Int))) v13 v14 v15 (w64 (v16 + (1 : Int)))) else G 0 (rcount_C0 v0 (w64 (v1 + (1 : Int))) (w64 (v2 + (1 : Int))) v3 v4 v5 v6 v7 v8 v9 (w64 (v10 + (1 : Int))) (w64 (v11 + (1 : Int))) (w64 (v1 + (1 : Int))) v13 v14 v15 v16))))) else (bif ((List.getD v0 (Int.toNat v2) (dflt .ref44_Note)).kind == (3 : Int)) then (bif ((List.getD v0 (Int.toNat v2) (dflt .ref44_Note)).kind == (4 : Int)) then (bif ((List.getD v0 (Int.toNat v2) (dflt .ref44_Note)).kind == (8 : Int)) then (bif ((List.getD v0 (Int.toNat v2) (dflt .ref44_Note)).kind == (9 : Int)) then G 0 (rcount_C0 v0 (w64 (v1 + (1 : Int))) (w64 (v2 + (1 : Int))) v3 v4 v5 v6 v7 v8 v9 v10 (w64 (v11 + (1 : Int))) (w64 (v1 + (1 : Int))) (w64 (v13 + (1 : Int))) (w64 (v14 + (1 : Int))) (w64 (v15 + (1 : Int))) (w64 (v16 + (1 : Int)))) else G 0 (rcount_C0 v0 (w64 (v1 + (1 : Int))) (w64 (v2 + (1 : Int))) v3 v4 v5 v6 v7 v8 v9 v10 (w64 (v11 + (1 : Int))) (w64 (v1 + (1 : Int))) (w64 (v13 + (1 : Int))) (w64 (v14 + (1 : Int))) (w64 (v15 + (1 : Int))) v16)) else (bif ((List.getD v0 (Int.toNat v2) (dflt .ref44_Note)).kind == (9 : Int)) then G 0 (rcount_C0 v0 (w64 (v1 + (1 : Int))) (w64 (v2 + (1 : Int))) v3 v4 v5 v6 v7 v8 v9 v10 (w64 (v11 + (1 : Int))) (w64 (v1 + (1 : Int))) (w64 (v13 + (1 : Int))) (w64 (v14 + (1 : Int))) v15 (w64 (v16 + (1 : Int)))) else G 0 (rcount_C0 v0 (w64 (v1 + (1 : Int))) (w64 (v2 + (1 : Int))) v3 v4 v5 v6 v7 v8 v9 v10 (w64 (v11 + (1 : Int))) (w64 (v1 + (1 : Int))) (w64 (v13 + (1 : Int))) (w64 (v14 + (1 : Int))) v15 v16))) else (bif ((List.getD v0 (Int.toNat v2) (dflt .ref44_Note)).kind == (8 : Int)) then (bif ((List.getD v0 (Int.toNat v2) (dflt .ref44_Note)).kind == (9 : Int)) then G 0 (rcount_C0 v0 (w64 (v1 + (1 : Int))) (w64 (v2 + (1 : Int))) v3 v4 v5 v6 v7 v8 v9 v10 (w64 (v11 + (1 : Int))) (w64 (v1 + (1 : Int))) (w64 (v13 + (1 : Int))) v14 (w64 (v15 + (1 : Int))) (w64 (v16 + (1 : Int)))) else G 0 (rcount_C0 v0 (w64 (v1 + (1 : Int))) (w64 (v2 + (1 : Int))) v3 v4 v5 v6 v7 v8 v9 v10 (w64 (v11 + (1 : Int))) (w64 (v1 + (1 : Int))) (w64 (v13 + (1 : Int))) v14 (w64 (v15 + (1 : Int))) v16)) else (bif ((List.getD v0 (Int.toNat v2) (dflt .ref44_Note)).kind == (9 : Int)) then G 0 (rcount_C0 v0 (w64 (v1 + (1 : Int))) (w64 (v2 + (1 : Int))) v3 v4 v5 v6 v7 v8 v9 v10 (w64 (v11 + (1 : Int))) (w64 (v1 + (1 : Int))) (w64 (v13 + (1 : Int))) v14 v15 (w64 (v16 + (1 : Int)))) else G 0 (rcount_C0 v0 (w64 (v1 + (1 : Int))) (w64 (v2 + (1 : Int))) v3 v4 v5 v6 v7 v8 v9 v10 (w64 (v11 + (1 : Int))) (w64 (v1 + (1 : Int))) (w64 (v13 + (1 : Int))) v14 v15 v16)))) else (bif ((List.getD v0 (Int.toNat v2) (dflt .ref44_Note)).kind == (4 : Int)) then (bif ((List.getD v0 (Int.toNat v2) (dflt .ref44_Note)).kind == (8 : Int)) then (bif ((List.getD v0 (Int.toNat v2) (dflt .ref44_Note)).kind == (9 : Int)) then G 0 (rcount_C0 v0 (w64 (v1 + (1 : Int))) (w64 (v2 + (1 : Int))) v3 v4 v5 v6 v7 v8 v9 v10 (w64 (v11 + (1 : Int))) (w64 (v1 + (1 : Int))) v13 (w64 (v14 + (1 : Int))) (w64 (v15 + (1 : Int))) (w64 (v16 + (1 : Int)))) else G 0 (rcount_C0 v0 (w64 (v1 + (1 : Int))) (w64 (v2 + (1 : Int))) v3 v4 v5 v6 v7 v8 v9 v10 (w64 (v11 + (1 : Int))) (w64 (v1 + (1 : Int))) v13 (w64 (v14 + (1 : Int))) (w64 (v15 + (1 : Int))) v16)) else (bif ((List.getD v0 (Int.toNat v2) (dflt .ref44_Note)).kind == (9 : Int)) then G 0 (rcount_C0 v0 (w64 (v1 + (1 : Int))) (w64 (v2 + (1 : Int))) v3 v4 v5 v6 v7 v8 v9 v10 (w64 (v11 + (1 : Int))) (w64 (v1 + (1 : Int))) v13 (w64 (v14 + (1 : Int))) v15 (w64 (v16 + (1 : Int)))) else G 0 (rcount_C0 v0 (w64 (v1 + (1 : Int))) (w64 (v2 + (1 : Int))) v3 v4 v5 v6 v7 v8 v9 v10 (w64 (v11 + (1 : Int))) (w64 (v1 + (1 : Int))) v13 (w64 (v14 + (1 : Int))) v15 v16))) else (bif ((List.getD v0 (Int.toNat v2) (dflt .ref44_Note)).kind == (8 : Int)) then (bif ((List.getD v0 (Int.toNat v2) (dflt .ref44_Note)).kind == (9 : Int)) then G 0 (rcount_C0 v0 (w64 (v1 + (1 : Int))) (w64 (v2 + (1 : Int))) v3 v4 v5 v6 v7 v8 v9 v10 (w64 (v11 + (1 : Int))) (w64 (v1 + (1 : Int))) v13 v14 (w64 (v15 + (1 : Int))) (w64 (v16 + (1 : Int)))) else G 0 (rcount_C0 v0 (w64 (v1 + (1 : Int))) (w64 (v2 + (1 : Int))) v3 v4 v5 v6 v7 v8 v9 v10 (w64 (v11 + (1 : Int))) (w64 (v1 + (1 : Int))) v13 v14 (w64 (v15 + (1 : Int))) v16)) else (bif ((List.getD v0 (Int.toNat v2) (dflt .ref44_Note)).kind == (9 : Int)) then G 0 (rcount_C0 v0 (w64 (v1 + (1 : Int))) (w64 (v2 + (1 : Int))) v3 v4 v5 v6 v7 v8 v9 v10 (w64 (v11 + (1 : Int))) (w64 (v1 + (1 : Int))) v13 v14 v15 (w64 (v16 + (1 : Int)))) else G 0 (rcount_C0 v0 (w64 (v1 + (1 : Int))) (w64 (v2 + (1 : Int))) v3 v4 v5 v6 v7 v8 v9 v10 (w64 (v11 + (1 : Int))) (w64 (v1 + (1 : Int))) v13 v14 v15 v16)))))) else (bif (bif ((List.getD v0 (Int.toNat v2) (dflt .ref44_Note)).kind == (2 : Int)) then ((List.getD v0 (Int.toNat v2) (dflt .ref44_Note)).e == (0 : Int)) else false) then (bif ((List.getD v0 (Int.toNat v2) (dflt .ref44_Note)).kind == (3 : Int)) then (bif ((List.getD v0 (Int.toNat v2) (dflt .ref44_Note)).kind == (4 : Int)) then (bif ((List.getD v0 (Int.toNat v2) (dflt .ref44_Note)).kind == (8 : Int)) then (bif ((List.getD v0 (Int.toNat v2) (dflt .ref44_Note)).kind == (9 : Int)) then G 0 (rcount_C0 v0 (w64 (v1 + (1 : Int))) (w64 (v2 + (1 : Int))) v3 v4 v5 v6 v7 v8 v9 (w64 (v10 + (1 : Int))) (w64 (v11 + (1 : Int))) v12 (w64 (v13 + (1 : Int))) (w64 (v14 + (1 : Int))) (w64 (v15 + (1 : Int))) (w64 (v16 + (1 : Int)))) else G 0 (rcount_C0 v0 (w64 (v1 + (1 : Int))) (w64 (v2 + (1 : Int))) v3 v4 v5 v6 v7 v8 v9 (w64 (v10 + (1 : Int))) (w64 (v11 + (1 : Int))) v12 (w64 (v13 + (1 : Int))) (w64 (v14 + (1 : Int))) (w64 (v15 + (1 : Int))) v16)) else (bif ((List.getD v0 (Int.toNat v2) (dflt .ref44_Note)).kind == (9 : Int)) then G 0 (rcount_C0 v0 (w64 (v1 + (1 : Int))) (w64 (v2 + (1 : Int))) v3 v4 v5 v6 v7 v8 v9 (w64 (v10 + (1 : Int))) (w64 (v11 + (1 : Int))) v12 (w64 (v13 + (1 : Int))) (w64 (v14 + (1 : Int))) v15 (w64 (v16 + (1 : Int)))) else G 0 (rcount_C0 v0 (w64 (v1 + (1 : Int))) (w64 (v2 + (1 : Int))) v3 v4 v5 v6 v7 v8 v9 (w64 (v10 + (1 : Int))) (w64 (v11 + (1 : Int))) v12 (w64 (v13 + (1 : Int))) (w64 (v14 + (1 : Int))) v15 v16))) else (bif ((List.getD v0 (Int.toNat v2) (dflt .ref44_Note)).kind == (8 : Int)) then (bif ((List.getD v0 (Int.toNat v2) (dflt .ref44_Note)).kind == (9 : Int)) then G 0 (rcount_C0 v0 (w64 (v1 + (1 : Int))) (w64 (v2 + (1 : Int))) v3 v4 v5 v6 v7 v8 v9 (w64 (v10 + (1 : Int))) (w64 (v11 + (1 : Int))) v12 (w64 (v13 + (1 : Int))) v14 (w64 (v15 + (1 : Int))) (w64 (v16 + (1 : Int)))) else G 0 (rcount_C0 v0 (w64 (v1 + (1 : Int))) (w64 (v2 + (1 : Int))) v3 v4 v5 v6 v7 v8 v9 (w64 (v10 + (1 : Int))) (w64 (v11 + (1 : Int))) v12 (w64 (v13 + (1 : Int))) v14 (w64 (v15 + (1 : Int))) v16)) else (bif ((List.getD v0 (Int.toNat v2) (dflt .ref44_Note)).kind == (9 : Int)) then G 0 (rcount_C0 v0 (w64 (v1 + (1 : Int))) (w64 (v2 + (1 : Int))) v3 v4 v5 v6 v7 v8 v9 (w64 (v10 + (1 : Int))) (w64 (v11 + (1 : Int))) v12 (w64 (v13 + (1 : Int))) v14 v15 (w64 (v16 + (1 : Int)))) else G 0 (rcount_C0 v0 (w64 (v1 + (1 : Int))) (w64 (v2 + (1 : Int))) v3 v4 v5 v6 v7 v8 v9 (w64 (v10 + (1 : Int))) (w64 (v11 + (1 : Int))) v12 (w64 (v13 + (1 : Int))) v14 v15 v16)))) else (bif ((List.getD v0 (Int.toNat v2) (dflt .ref44_Note)).kind == (4 : Int)) then (bif ((List.getD v0 (Int.toNat v2) (dflt .ref44_Note)).kind == (8 : Int)) then (bif ((List.getD v0 (Int.toNat v2) (dflt .ref44_Note)).kind == (9 : Int)) then G 0 (rcount_C0 v0 (w64 (v1 + (1 : Int))) (w64 (v2 + (1 : Int))) v3 v4 v5 v6 v7 v8 v9 (w64 (v10 + (1 : Int))) (w64 (v11 + (1 : Int))) v12 v13 (w64 (v14 + (1 : Int))) (w64 (v15 + (1 : Int))) (w64 (v16 + (1 : Int)))) else G 0 (rcount_C0 v0 (w64 (v1 + (1 : Int))) (w64 (v2 + (1 : Int))) v3 v4 v5 v6 v7 v8 v9 (w64 (v10 + (1 : Int))) (w64 (v11 + (1 : Int))) v12 v13 (w64 (v14 + (1 : Int))) (w64 (v15 + (1 : Int))) v16)) else (bif ((List.getD v0 (Int.toNat v2) (dflt .ref44_Note)).kind == (9 : Int)) then G 0 (rcount_C0 v0 (w64 (v1 + (1 : Int))) (w64 (v2 + (1 : Int))) v3 v4 v5 v6 v7 v8 v9 (w64 (v10 + (1 : Int))) (w64 (v11 + (1 : Int))) v12 v13 (w64 (v14 + (1 : Int))) v15 (w64 (v16 + (1 : Int)))) else G 0 (rcount_C0 v0 (w64 (v1 + (1 : Int))) (w64 (v2 + (1 : Int))) v3 v4 v5 v6 v7 v8 v9 (w64 (v10 + (1 : Int))) (w64 (v11 + (1 : Int))) v12 v13 (w64 (v14 + (1 : Int))) v15 v16))) else (bif ((List.getD v0 (Int.toNat v2) (dflt .ref44_Note)).kind == (8 : Int)) then (bif ((List.getD v0 (Int.toNat v2) (dflt .ref44_Note)).kind == (9 : Int)) then G 0 (rcount_C0 v0 (w64 (v1 + (1 : Int))) (w64 (v2 + (1 : Int))) v3 v4 v5 v6 v7 v8 v9 (w64 (v10 + (1 : Int))) (w64 (v11 + (1 : Int))) v12 v13 v14 (w64 (v15 + (1 : Int))) (w64 (v16 + (1 : Int)))) else G 0 (rcount_C0 v0 (w64 (v1 + (1 : Int))) (w64 (v2 + (1 : Int))) v3 v4 v5 v6 v7 v8 v9 (w64 (v10 + (1 : Int))) (w64 (v11 + (1 : Int))) v12 v13 v14 (w64 (v15 + (1 : Int))) v16)) else (bif ((List.getD v0 (Int.toNat v2) (dflt .ref44_Note)).kind == (9 : Int)) then G 0 (rcount_C0 v0 (w64 (v1 + (1 : Int))) (w64 (v2 + (1 : Int))) v3 v4 v5 v6 v7 v8 v9 (w64 (v10 + (1 : Int))) (w64 (v11 + (1 : Int))) v12 v13 v14 v15 (w64 (v16 + (1 : Int)))) else G 0 (rcount_C0 v0 (w64 (v1 + (1 : Int))) (w64 (v2 + (1 : Int))) v3 v4 v5 v6 v7 v8 v9 (w64 (v10 + (1 : Int))) (w64 (v11 + (1 : Int))) v12 v13 v14 v15 v16))))) else (bif ((List.getD v0 (Int.toNat v2) (dflt .ref44_Note)).kind == (3 : Int)) then (bif ((List.getD v0 (Int.toNat v2) (dflt .ref44_Note)).kind == (4 : Int)) then (bif ((List.getD v0 (Int.toNat v2) (dflt .ref44_Note)).kind == (8 : Int)) then (bif ((List.getD v0 (Int.toNat v2) (dflt .ref44_Note)).kind == (9 : Int)) then G 0 (rcount_C0 v0 (w64 (v1 + (1 : Int))) (w64 (v2 + (1 : Int))) v3 v4 v5 v6 v7 v8 v9 v10 (w64 (v11 + (1 : Int))) v12 (w64 (v13 + (1 : Int))) (w64 (v14 + (1 : Int))) (w64 (v15 + (1 : Int))) (w64 (v16 + (1 : Int)))) else G 0 (rcount_C0 v0 (w64 (v1 + (1 : Int))) (w64 (v2 + (1 : Int))) v3 v4 v5 v6 v7 v8 v9 v10 (w64 (v11 + (1 : Int))) v12 (w64 (v13 + (1 : Int))) (w64 (v14 + (1 : Int))) (w64 (v15 + (1 : Int))) v16)) else (bif ((List.getD v0 (Int.toNat v2) (dflt .ref44_Note)).kind == (9 : Int)) then G 0 (rcount_C0 v0 (w64 (v1 + (1 : Int))) (w64 (v2 + (1 : Int))) v3 v4 v5 v6 v7 v8 v9 v10 (w64 (v11 + (1 : Int))) v12 (w64 (v13 + (1 : Int))) (w64 (v14 + (1 : Int))) v15 (w64 (v16 + (1 : Int)))) else G 0 (rcount_C0 v0 (w64 (v1 + (1 : Int))) (w64 (v2 + (1 : Int))) v3 v4 v5 v6 v7 v8 v9 v10 (w64 (v11 + (1 : Int))) v12 (w64 (v13 + (1 : Int))) (w64 (v14 + (1 : Int))) v15 v16))) else (bif ((List.getD v0 (Int.toNat v2) (dflt .ref44_Note)).kind == (8 : Int)) then (bif ((List.getD v0 (Int.toNat v2) (dflt .ref44_Note)).kind == (9 : Int)) then G 0 (rcount_C0 v0 (w64 (v1 + (1 : Int))) (w64 (v2 + (1 : Int))) v3 v4 v5 v6 v7 v8 v9 v10 (w64 (v11 + (1 : Int))) v12 (w64 (v13 + (1 : Int))) v14 (w64 (v15 + (1 : Int))) (w64 (v16 + (1 : Int)))) else G 0 (rcount_C0 v0 (w64 (v1 + (1 : Int))) (w64 (v2 + (1 : Int))) v3 v4 v5 v6 v7 v8 v9 v10 (w64 (v11 + (1 : Int))) v12 (w64 (v13 + (1 : Int))) v14 (w64 (v15 + (1 : Int))) v16)) else (bif ((List.getD v0 (Int.toNat v2) (dflt .ref44_Note)).kind == (9 : Int)) then G 0 (rcount_C0 v0 (w64 (v1 + (1 : Int))) (w64 (v2 + (1 : Int))) v3 v4 v5 v6 v7 v8 v9 v10 (w64 (v11 + (1 : Int))) v12 (w64 (v13 + (1 : Int))) v14 v15 (w64 (v16 + (1 : Int)))) else G 0 (rcount_C0 v0 (w64 (v1 + (1 : Int))) (w64 (v2 + (1 : Int))) v3 v4 v5 v6 v7 v8 v9 v10 (w64 (v11 + (1 : Int))) v12 (w64 (v13 + (1 : Int))) v14 v15 v16)))) else (bif ((List.getD v0 (Int.toNat v2) (dflt .ref44_Note)).kind == (4 : Int)) then (bif ((List.getD v0 (Int.toNat v2) (dflt .ref44_Note)).kind == (8 : Int)) then (bif ((List.getD v0 (Int.toNat v2) (dflt .ref44_Note)).kind == (9 : Int)) then G 0 (rcount_C0 v0 (w64 (v1 + (1 : Int))) (w64 (v2 + (1 : Int))) v3 v4 v5 v6 v7 v8 v9 v10 (w64 (v11 + (1 : Int))) v12 v13 (w64 (v14 + (1 : Int))) (w64 (v15 + (1 : Int))) (w64 (v16 + (1 : Int)))) else G 0 (rcount_C0 v0 (w64 (v1 + (1 : Int))) (w64 (v2 + (1 : Int))) v3 v4 v5 v6 v7 v8 v9 v10 (w64 (v11 + (1 : Int))) v12 v13 (w64 (v14 + (1 : Int))) (w64 (v15 + (1 : Int))) v16)) else (bif ((List.getD v0 (Int.toNat v2) (dflt .ref44_Note)).kind == (9 : Int)) then G 0 (rcount_C0 v0 (w64 (v1 + (1 : Int))) (w64 (v2 + (1 : Int))) v3 v4 v5 v6 v7 v8 v9 v10 (w64 (v11 + (1 : Int))) v12 v13 (w64 (v14 + (1 : Int))) v15 (w64 (v16 + (1 : Int)))) else G 0 (rcount_C0 v0 (w64 (v1 + (1 : Int))) (w64 (v2 + (1 : Int))) v3 v4 v5 v6 v7 v8 v9 v10 (w64 (v11 + (1 : Int))) v12 v13 (w64 (v14 + (1 : Int))) v15 v16))) else (bif ((List.getD v0 (Int.toNat v2) (dflt .ref44_Note)).kind == (8 : Int)) then (bif ((List.getD v0 (Int.toNat v2) (dflt .ref44_Note)).kind == (9 : Int)) then G 0 (rcount_C0 v0 (w64 (v1 + (1 : Int))) (w64 (v2 + (1 : Int))) v3 v4 v5 v6 v7 v8 v9 v10 (w64 (v11 + (1 : Int))) v12 v13 v14 (w64 (v15 + (1 : Int))) (w64 (v16 + (1 : Int)))) else G 0 (rcount_C0 v0 (w64 (v1 + (1 : Int))) (w64 (v2 + (1 : Int))) v3 v4 v5 v6 v7 v8 v9 v10 (w64 (v11 + (1 : Int))) v12 v13 v14 (w64 (v15 + (1 : Int))) v16)) else (bif ((List.getD v0 (Int.toNat v2) (dflt .ref44_Note)).kind == (9 : Int)) then G 0 (rcount_C0 v0 (w64 (v1 + (1 : Int))) (w64 (v2 + (1 : Int))) v3 v4 v5 v6 v7 v8 v9 v10 (w64 (v11 + (1 : Int))) v12 v13 v14 v15 (w64 (v16 + (1 : Int)))) else G 0 (rcount_C0 v0 (w64 (v1 + (1 : Int))) (w64 (v2 + (1 : Int))) v3 v4 v5 v6 v7 v8 v9 v10 (w64 (v11 + (1 : Int))) v12 v13 v14 v15 v16))))))) else (bif ((List.getD v0 (Int.toNat v2) (dflt .ref44_Note)).kind == (2 : Int)) then (bif (bif ((List.getD v0 (Int.toNat v2) (dflt .ref44_Note)).kind == (2 : Int)) then ((List.getD v0 (Int.toNat v2) (dflt .ref44_Note)).e == (0 : Int)) else false) then (bif ((List.getD v0 (Int.toNat v2) (dflt .ref44_Note)).kind == (3 : Int)) then (bif ((List.getD v0 (Int.toNat v2) (dflt .ref44_Note)).kind == (4 : Int)) then (bif ((List.getD v0 (Int.toNat v2) (dflt .ref44_Note)).kind == (8 : Int)) then (bif ((List.getD v0 (Int.toNat v2) (dflt .ref44_Note)).kind == (9 : Int)) then G 0 (rcount_C0 v0 0 (w64 (v2 + (1 : Int))) v3 v4 v5 v6 v7 v8 v9 (w64 (v10 + (1 : Int))) v11 v12 (w64 (v13 + (1 : Int))) (w64 (v14 + (1 : Int))) (w64 (v15 + (1 : Int))) (w64 (v16 + (1 : Int)))) else G 0 (rcount_C0 v0 0 (w64 (v2 + (1 : Int))) v3 v4 v5 v6 v7 v8 v9 (w64 (v10 + (1 : Int))) v11 v12 (w64 (v13 + (1 : Int))) (w64 (v14 + (1 : Int))) (w64 (v15 + (1 : Int))) v16)) else (bif ((List.getD v0 (Int.toNat v2) (dflt .ref44_Note)).kind == (9 : Int)) then G 0 (rcount_C0 v0 0 (w64 (v2 + (1 : Int))) v3 v4 v5 v6 v7 v8 v9 (w64 (v10 + (1 : Int))) v11 v12 (w64 (v13 + (1 : Int))) (w64 (v14 + (1 : Int))) v15 (w64 (v16 + (1 : Int)))) else G 0 (rcount_C0 v0 0 (w64 (v2 + (1 : Int))) v3 v4 v5 v6 v7 v8 v9 (w64 (v10 + (1 : Int))) v11 v12 (w64 (v13 + (1 : Int))) (w64 (v14 + (1 : Int))) v15 v16))) else (bif ((List.getD v0 (Int.toNat v2) (dflt .ref44_Note)).kind == (8 : Int)) then (bif ((List.getD v0 (Int.toNat v2) (dflt .ref44_Note)).kind == (9 : Int)) then G 0 (rcount_C0 v0 0 (w64 (v2 + (1 : Int))) v3 v4 v5 v6 v7 v8 v9 (w64 (v10 + (1 : Int))) v11 v12 (w64 (v13 + (1 : Int))) v14 (w64 (v15 + (1 : Int))) (w64 (v16 + (1 : Int)))) else G 0 (rcount_C0 v0 0 (w64 (v2 + (1 : Int))) v3 v4 v5 v6 v7 v8 v9 (w64 (v10 + (1 : Int))) v11 v12 (w64 (v13 + (1 : Int))) v14 (w64 (v15 + (1 : Int))) v16)) else (bif ((List.getD v0 (Int.toNat v2) (dflt .ref44_Note)).kind == (9 : Int)) then G 0 (rcount_C0 v0 0 (w64 (v2 + (1 : Int))) v3 v4 v5 v6 v7 v8 v9 (w64 (v10 + (1 : Int))) v11 v12 (w64 (v13 + (1 : Int))) v14 v15 (w64 (v16 + (1 : Int)))) else G 0 (rcount_C0 v0 0 (w64 (v2 + (1 : Int))) v3 v4 v5 v6 v7 v8 v9 (w64 (v10 + (1 : Int))) v11 v12 (w64 (v13 + (1 : Int))) v14 v15 v16)))) else (bif ((List.getD v0 (Int.toNat v2) (dflt .ref44_Note)).kind == (4 : Int)) then (bif ((List.getD v0 (Int.toNat v2) (dflt .ref44_Note)).kind == (8 : Int)) then (bif ((List.getD v0 (Int.toNat v2) (dflt .ref44_Note)).kind == (9 : Int)) then G 0 (rcount_C0 v0 0 (w64 (v2 + (1 : Int))) v3 v4 v5 v6 v7 v8 v9 (w64 (v10 + (1 : Int))) v11 v12 v13 (w64 (v14 + (1 : Int))) (w64 (v15 + (1 : Int))) (w64 (v16 + (1 : Int)))) else G 0 (rcount_C0 v0 0 (w64 (v2 + (1 : Int))) v3 v4 v5 v6 v7 v8 v9 (w64 (v10 + (1 : Int))) v11 v12 v13 (w64 (v14 + (1 : Int))) (w64 (v15 + (1 : Int))) v16)) else (bif ((List.getD v0 (Int.toNat v2) (dflt .ref44_Note)).kind == (9 : Int)) then G 0 (rcount_C0 v0 0 (w64 (v2 + (1 : Int))) v3 v4 v5 v6 v7 v8 v9 (w64 (v10 + (1 : Int))) v11 v12 v13 (w64 (v14 + (1 : Int))) v15 (w64 (v16 + (1 : Int)))) else G 0 (rcount_C0 v0 0 (w64 (v2 + (1 : Int))) v3 v4 v5 v6 v7 v8 v9 (w64 (v10 + (1 : Int))) v11 v12 v13 (w64 (v14 + (1 : Int))) v15 v16))) else (bif ((List.getD v0 (Int.toNat v2) (dflt .ref44_Note)).kind == (8 : Int)) then (bif ((List.getD v0 (Int.toNat v2) (dflt .ref44_Note)).kind == (9 : Int)) then G 0 (rcount_C0 v0 0 (w64 (v2 + (1 : Int))) v3 v4 v5 v6 v7 v8 v9 (w64 (v10 + (1 : Int))) v11 v12 v13 v14 (w64 (v15 + (1 : Int))) (w64 (v16 + (1 : Int)))) else G 0 (rcount_C0 v0 0 (w64 (v2 + (1 : Int))) v3 v4 v5 v6 v7 v8 v9 (w64 (v10 + (1 : Int))) v11 v12 v13 v14 (w64 (v15 + (1 : Int))) v16)) else (bif ((List.getD v0 (Int.toNat v2) (dflt .ref44_Note)).kind == (9 : Int)) then G 0 (rcount_C0 v0 0 (w64 (v2 + (1 : Int))) v3 v4 v5 v6 v7 v8 v9 (w64 (v10 + (1 : Int))) v11 v12 v13 v14 v15 (w64 (v16 + (1 : Int)))) else G 0 (rcount_C0 v0 0 (w64 (v2 + (1 : Int))) v3 v4 v5 v6 v7 v8 v9 (w64 (v10 + (1 : Int))) v11 v12 v13 v14 v15 v16))))) else (bif ((List.getD v0 (Int.toNat v2) (dflt .ref44_Note)).kind == (3 : Int)) then (bif ((List.getD v0 (Int.toNat v2) (dflt .ref44_Note)).kind == (4 : Int)) then (bif ((List.getD v0 (Int.toNat v2) (dflt .ref44_Note)).kind == (8 : Int)) then (bif ((List.getD v0 (Int.toNat v2) (dflt .ref44_Note)).kind == (9 : Int)) then G 0 (rcount_C0 v0 0 (w64 (v2 + (1 : Int))) v3 v4 v5 v6 v7 v8 v9 v10 v11 v12 (w64 (v13 + (1 : Int))) (w64 (v14 + (1 : Int))) (w64 (v15 + (1 : Int))) (w64 (v16 + (1 : Int)))) else G 0 (rcount_C0 v0 0 (w64 (v2 + (1 : Int))) v3 v4 v5 v6 v7 v8 v9 v10 v11 v12 (w64 (v13 + (1 : Int))) (w64 (v14 + (1 : Int))) (w64 (v15 + (1 : Int))) v16)) else (bif ((List.getD v0 (Int.toNat v2) (dflt .ref44_Note)).kind == (9 : Int)) then G 0 (rcount_C0 v0 0 (w64 (v2 + (1 : Int))) v3 v4 v5 v6 v7 v8 v9 v10 v11 v12 (w64 (v13 + (1 : Int))) (w64 (v14 + (1 : Int))) v15 (w64 (v16 + (1 : Int)))) else G 0 (rcount_C0 v0 0 (w64 (v2 + (1 : Int))) v3 v4 v5 v6 v7 v8 v9 v10 v11 v12 (w64 (v13 + (1 : Int))) (w64 (v14 + (1 : Int))) v15 v16))) else (bif ((List.getD v0 (Int.toNat v2) (dflt .ref44_Note)).kind == (8 : Int)) then (bif ((List.getD v0 (Int.toNat v2) (dflt .ref44_Note)).kind == (9 : Int)) then G 0 (rcount_C0 v0 0 (w64 (v2 + (1 : Int))) v3 v4 v5 v6 v7 v8 v9 v10 v11 v12 (w64 (v13 + (1 : Int))) v14 (w64 (v15 + (1 : Int))) (w64 (v16 + (1 : Int)))) else G 0 (rcount_C0 v0 0 (w64 (v2 + (1 : Int))) v3 v4 v5 v6 v7 v8 v9 v10 v11 v12 (w64 (v13 + (1 : Int))) v14 (w64 (v15 + (1 : Int))) v16)) else (bif ((List.getD v0 (Int.toNat v2) (dflt .ref44_Note)).kind == (9 : Int)) then G 0 (rcount_C0 v0 0 (w64 (v2 + (1 : Int))) v3 v4 v5 v6 v7 v8 v9 v10 v11 v12 (w64 (v13 + (1 : Int))) v14 v15 (w64 (v16 + (1 : Int)))) else G 0 (rcount_C0 v0 0 (w64 (v2 + (1 : Int))) v3 v4 v5 v6 v7 v8 v9 v10 v11 v12 (w64 (v13 + (1 : Int))) v14 v15 v16)))) else (bif ((List.getD v0 (Int.toNat v2) (dflt .ref44_Note)).kind == (4 : Int)) then (bif ((List.getD v0 (Int.toNat v2) (dflt .ref44_Note)).kind == (8 : Int)) then (bif ((List.getD v0 (Int.toNat v2) (dflt .ref44_Note)).kind == (9 : Int)) then G 0 (rcount_C0 v0 0 (w64 (v2 + (1 : Int))) v3 v4 v5 v6 v7 v8 v9 v10 v11 v12 v13 (w64 (v14 + (1 : Int))) (w64 (v15 + (1 : Int))) (w64 (v16 + (1 : Int)))) else G 0 (rcount_C0 v0 0 (w64 (v2 + (1 : Int))) v3 v4 v5 v6 v7 v8 v9 v10 v11 v12 v13 (w64 (v14 + (1 : Int))) (w64 (v15 + (1 : Int))) v16)) else (bif ((List.getD v0 (Int.toNat v2) (dflt .ref44_Note)).kind == (9 : Int)) then G 0 (rcount_C0 v0 0 (w64 (v2 + (1 : Int))) v3 v4 v5 v6 v7 v8 v9 v10 v11 v12 v13 (w64 (v14 + (1 : Int))) v15 (w64 (v16 + (1 : Int)))) else G 0 (rcount_C0 v0 0 (w64 (v2 + (1 : Int))) v3 v4 v5 v6 v7 v8 v9 v10 v11 v12 v13 (w64 (v14 + (1 : Int))) v15 v16))) else (bif ((List.getD v0 (Int.toNat v2) (dflt .ref44_Note)).kind == (8 : Int)) then (bif ((List.getD v0 (Int.toNat v2) (dflt .ref44_Note)).kind == (9 : Int)) then G 0 (rcount_C0 v0 0 (w64 (v2 + (1 : Int))) v3 v4 v5 v6 v7 v8 v9 v10 v11 v12 v13 v14 (w64 (v15 + (1 : Int))) (w64 (v16 + (1 : Int)))) else G 0 (rcount_C0 v0 0 (w64 (v2 + (1 : Int))) v3 v4 v5 v6 v7 v8 v9 v10 v11 v12 v13 v14 (w64 (v15 + (1 : Int))) v16)) else (bif ((List.getD v0 (Int.toNat v2) (dflt .ref44_Note)).kind == (9 : Int)) then G 0 (rcount_C0 v0 0 (w64 (v2 + (1 : Int))) v3 v4 v5 v6 v7 v8 v9 v10 v11 v12 v13 v14 v15 (w64 (v16 + (1 : Int)))) else G 0 (rcount_C0 v0 0 (w64 (v2 + (1 : Int))) v3 v4 v5 v6 v7 v8 v9 v10 v11 v12 v13 v14 v15 v16)))))) else (bif (bif ((List.getD v0 (Int.toNat v2) (dflt .ref44_Note)).kind == (2 : Int)) then ((List.getD v0 (Int.toNat v2) (dflt .ref44_Note)).e == (0 : Int)) else false) then (bif ((List.getD v0 (Int.toNat v2) (dflt .ref44_Note)).kind == (3 : Int)) then (bif ((List.getD v0 (Int.toNat v2) (dflt .ref44_Note)).kind == (4 : Int)) then (bif ((List.getD v0 (Int.toNat v2) (dflt .ref44_Note)).kind == (8 : Int)) then (bif ((List.getD v0 (Int.toNat v2) (dflt .ref44_Note)).kind == (9 : Int)) then G 0 (rcount_C0 v0 v1 (w64 (v2 + (1 : Int))) v3 v4 v5 v6 v7 v8 v9 (w64 (v10 + (1 : Int))) v11 v12 (w64 (v13 + (1 : Int))) (w64 (v14 + (1 : Int))) (w64 (v15 + (1 : Int))) (w64 (v16 + (1 : Int)))) else G 0 (rcount_C0 v0 v1 (w64 (v2 + (1 : Int))) v3 v4 v5 v6 v7 v8 v9 (w64 (v10 + (1 : Int))) v11 v12 (w64 (v13 + (1 : Int))) (w64 (v14 + (1 : Int))) (w64 (v15 + (1 : Int))) v16)) else (bif ((List.getD v0 (Int.toNat v2) (dflt .ref44_Note)).kind == (9 : Int)) then G 0 (rcount_C0 v0 v1 (w64 (v2 + (1 : Int))) v3 v4 v5 v6 v7 v8 v9 (w64 (v10 + (1 : Int))) v11 v12 (w64 (v13 + (1 : Int))) (w64 (v14 + (1 : Int))) v15 (w64 (v16 + (1 : Int)))) else G 0 (rcount_C0 v0 v1 (w64 (v2 + (1 : Int))) v3 v4 v5 v6 v7 v8 v9 (w64 (v10 + (1 : Int))) v11 v12 (w64 (v13 + (1 : Int))) (w64 (v14 + (1 : Int))) v15 v16))) else (bif ((List.getD v0 (Int.toNat v2) (dflt .ref44_Note)).kind == (8 : Int)) then (bif ((List.getD v0 (Int.toNat v2) (dflt .ref44_Note)).kind == (9 : Int)) then G 0 (rcount_C0 v0 v1 (w64 (v2 + (1 : Int))) v3 v4 v5 v6 v7 v8 v9 (w64 (v10 + (1 : Int))) v11 v12 (w64 (v13 + (1 : Int))) v14 (w64 (v15 + (1 : Int))) (w64 (v16 + (1 : Int)))) else G 0 (rcount_C0 v0 v1 (w64 (v2 + (1 : Int))) v3 v4 v5 v6 v7 v8 v9 (w64 (v10 + (1 : Int))) v11 v12 (w64 (v13 + (1 : Int))) v14 (w64 (v15 + (1 : Int))) v16)) else (bif ((List.getD v0 (Int.toNat v2) (dflt .ref44_Note)).kind == (9 : Int)) then G 0 (rcount_C0 v0 v1 (w64 (v2 + (1 : Int))) v3 v4 v5 v6 v7 v8 v9 (w64 (v10 + (1 : Int))) v11 v12 (w64 (v13 + (1 : Int))) v14 v15 (w64 (v16 + (1 : Int)))) else G 0 (rcount_C0 v0 v1 (w64 (v2 + (1 : Int))) v3 v4 v5 v6 v7 v8 v9 (w64 (v10 + (1 : Int))) v11 v12 (w64 (v13 + (1 : Int))) v14 v15 v16)))) else (bif ((List.getD v0 (Int.toNat v2) (dflt .ref44_Note)).kind == (4 : Int)) then (bif ((List.getD v0 (Int.toNat v2) (dflt .ref44_Note)).kind == (8 : Int)) then (bif ((List.getD v0 (Int.toNat v2) (dflt .ref44_Note)).kind == (9 : Int)) then G 0 (rcount_C0 v0 v1 (w64 (v2 + (1 : Int))) v3 v4 v5 v6 v7 v8 v9 (w64 (v10 + (1 : Int))) v11 v12 v13 (w64 (v14 + (1 : Int))) (w64 (v15 + (1 : Int))) (w64 (v16 + (1 : Int)))) else G 0 (rcount_C0 v0 v1 (w64 (v2 + (1 : Int))) v3 v4 v5 v6 v7 v8 v9 (w64 (v10 + (1 : Int))) v11 v12 v13 (w64 (v14 + (1 : Int))) (w64 (v15 + (1 : Int))) v16)) else (bif ((List.getD v0 (Int.toNat v2) (dflt .ref44_Note)).kind == (9 : Int)) then G 0 (rcount_C0 v0 v1 (w64 (v2 + (1 : Int))) v3 v4 v5 v6 v7 v8 v9 (w64 (v10 + (1 : Int))) v11 v12 v13 (w64 (v14 + (1 : Int))) v15 (w64 (v16 + (1 : Int)))) else G 0 (rcount_C0 v0 v1 (w64 (v2 + (1 : Int))) v3 v4 v5 v6 v7 v8 v9 (w64 (v10 + (1 : Int))) v11 v12 v13 (w64 (v14 + (1 : Int))) v15 v16))) else (bif ((List.getD v0 (Int.toNat v2) (dflt .ref44_Note)).kind == (8 : Int)) then (bif ((List.getD v0 (Int.toNat v2) (dflt .ref44_Note)).kind == (9 : Int)) then G 0 (rcount_C0 v0 v1 (w64 (v2 + (1 : Int))) v3 v4 v5 v6 v7 v8 v9 (w64 (v10 + (1 : Int))) v11 v12 v13 v14 (w64 (v15 + (1 : Int))) (w64 (v16 + (1 : Int)))) else G 0 (rcount_C0 v0 v1 (w64 (v2 + (1 : Int))) v3 v4 v5 v6 v7 v8 v9 (w64 (v10 + (1 : Int))) v11 v12 v13 v14 (w64 (v15 + (1 : Int))) v16)) else (bif ((List.getD v0 (Int.toNat v2) (dflt .ref44_Note)).kind == (9 : Int)) then G 0 (rcount_C0 v0 v1 (w64 (v2 + (1 : Int))) v3 v4 v5 v6 v7 v8 v9 (w64 (v10 + (1 : Int))) v11 v12 v13 v14 v15 (w64 (v16 + (1 : Int)))) else G 0 (rcount_C0 v0 v1 (w64 (v2 + (1 : Int))) v3 v4 v5 v6 v7 v8 v9 (w64 (v10 + (1 : Int))) v11 v12 v13 v14 v15 v16))))) else (bif ((List.getD v0 (Int.toNat v2) (dflt .ref44_Note)).kind == (3 : Int)) then (bif ((List.getD v0 (Int.toNat v2) (dflt .ref44_Note)).kind == (4 : Int)) then (bif ((List.getD v0 (Int.toNat v2) (dflt .ref44_Note)).kind == (8 : Int)) then (bif ((List.getD v0 (Int.toNat v2) (dflt .ref44_Note)).kind == (9 : Int)) then G 0 (rcount_C0 v0 v1 (w64 (v2 + (1 : Int))) v3 v4 v5 v6 v7 v8 v9 v10 v11 v12 (w64 (v13 + (1 : Int))) (w64 (v14 + (1 : Int))) (w64 (v15 + (1 : Int))) (w64 (v16 + (1 : Int)))) else G 0 (rcount_C0 v0 v1 (w64 (v2 + (1 : Int))) v3 v4 v5 v6 v7 v8 v9 v10 v11 v12 (w64 (v13 + (1 : Int))) (w64 (v14 + (1 : Int))) (w64 (v15 + (1 : Int))) v16)) else (bif ((List.getD v0 (Int.toNat v2) (dflt .ref44_Note)).kind == (9 : Int)) then G 0 (rcount_C0 v0 v1 (w64 (v2 + (1 : Int))) v3 v4 v5 v6 v7 v8 v9 v10 v11 v12 (w64 (v13 + (1 : Int))) (w64 (v14 + (1 : Int))) v15 (w64 (v16 + (1 : Int)))) else G 0 (rcount_C0 v0 v1 (w64 (v2 + (1 : Int))) v3 v4 v5 v6 v7 v8 v9 v10 v11 v12 (w64 (v13 + (1 : Int))) (w64 (v14 + (1 : Int))) v15 v16))) else (bif ((List.getD v0 (Int.toNat v2) (dflt .ref44_Note)).kind == (8 : Int)) then (bif ((List.getD v0 (Int.toNat v2) (dflt .ref44_Note)).kind == (9 : Int)) then G 0 (rcount_C0 v0 v1 (w64 (v2 + (1 : Int))) v3 v4 v5 v6 v7 v8 v9 v10 v11 v12 (w64 (v13 + (1 : Int))) v14 (w64 (v15 + (1 : Int))) (w64 (v16 + (1 : Int)))) else G 0 (rcount_C0 v0 v1 (w64 (v2 + (1 : Int))) v3 v4 v5 v6 v7 v8 v9 v10 v11 v12 (w64 (v13 + (1 : Int))) v14 (w64 (v15 + (1 : Int))) v16)) else (bif ((List.getD v0 (Int.toNat v2) (dflt .ref44_Note)).kind == (9 : Int)) then G 0 (rcount_C0 v0 v1 (w64 (v2 + (1 : Int))) v3 v4 v5 v6 v7 v8 v9 v10 v11 v12 (w64 (v13 + (1 : Int))) v14 v15 (w64 (v16 + (1 : Int)))) else G 0 (rcount_C0 v0 v1 (w64 (v2 + (1 : Int))) v3 v4 v5 v6 v7 v8 v9 v10 v11 v12 (w64 (v13 + (1 : Int))) v14 v15 v16)))) else (bif ((List.getD v0 (Int.toNat v2) (dflt .ref44_Note)).kind == (4 : Int)) then (bif ((List.getD v0 (Int.toNat v2) (dflt .ref44_Note)).kind == (8 : Int)) then (bif ((List.getD v0 (Int.toNat v2) (dflt .ref44_Note)).kind == (9 : Int)) then G 0 (rcount_C0 v0 v1 (w64 (v2 + (1 : Int))) v3 v4 v5 v6 v7 v8 v9 v10 v11 v12 v13 (w64 (v14 + (1 : Int))) (w64 (v15 + (1 : Int))) (w64 (v16 + (1 : Int)))) else G 0 (rcount_C0 v0 v1 (w64 (v2 + (1 : Int))) v3 v4 v5 v6 v7 v8 v9 v10 v11 v12 v13 (w64 (v14 + (1 : Int))) (w64 (v15 + (1 : Int))) v16)) else (bif ((List.getD v0 (Int.toNat v2) (dflt .ref44_Note)).kind == (9 : Int)) then G 0 (rcount_C0 v0 v1 (w64 (v2 + (1 : Int))) v3 v4 v5 v6 v7 v8 v9 v10 v11 v12 v13 (w64 (v14 + (1 : Int))) v15 (w64 (v16 + (1 : Int)))) else G 0 (rcount_C0 v0 v1 (w64 (v2 + (1 : Int))) v3 v4 v5 v6 v7 v8 v9 v10 v11 v12 v13 (w64 (v14 + (1 : Int))) v15 v16))) else (bif ((List.getD v0 (Int.toNat v2) (dflt .ref44_Note)).kind == (8 : Int)) then (bif ((List.getD v0 (Int.toNat v2) (dflt .ref44_Note)).kind == (9 : Int)) then G 0 (rcount_C0 v0 v1 (w64 (v2 + (1 : Int))) v3 v4 v5 v6 v7 v8 v9 v10 v11 v12 v13 v14 (w64 (v15 + (1 : Int))) (w64 (v16 + (1 : Int)))) else G 0 (rcount_C0 v0 v1 (w64 (v2 + (1 : Int))) v3 v4 v5 v6 v7 v8 v9 v10 v11 v12 v13 v14 (w64 (v15 + (1 : Int))) v16)) else (bif ((List.getD v0 (Int.toNat v2) (dflt .ref44_Note)).kind == (9 : Int)) then G 0 (rcount_C0 v0 v1 (w64 (v2 + (1 : Int))) v3 v4 v5 v6 v7 v8 v9 v10 v11 v12 v13 v14 v15 (w64 (v16 + (1 : Int)))) else G 0 (rcount_C0 v0 v1 (w64 (v2 + (1 : Int))) v3 v4 v5 v6 v7 v8 v9 v10 v11 v12 v13 v14 v15 v16)))))))) else none) else some [⟨.ref47_Tally, (⟨v10, v11, v12, v13, v14, v15, v16⟩ : Tally)⟩]
theorem rcount_l0 (G : Nat → ASt E → Option (List (TV E))) (v0 : List Note) (v1 v2 v3 v4 v5 v6 v7 v8 v9 v10 v11 v12 v13 v14 v15 v16 : Int) : runL rcount_O rcount_H G Tryz.f9 0 (rcount_C0 v0 v1 v2 v3 v4 v5 v6 v7 v8 v9 v10 v11 v12 v13 v14 v15 v16) = rcount_t0 G v0 v1 v2 v3 v4 v5 v6 v7 v8 v9 v10 v11 v12 v13 v14 v15 v16 := by kernel_rfl
theorem rcount_f : Tryz.prog.funcs[9]? = some Tryz.f9 := by kernel_rfl
theorem rcount_n : (Tryz.f9.name == "runtime.NumGoroutine") = false := by kernel_rfl
theorem rcount_b : Tryz.f9.body.isNone = false := by kernel_rfl
theorem rcount_hO : OracleOk E rcount_O := orac_ok .nil .nil .nil .nil
theorem rcount_s0 {res : List (TV E)} {v0 : List Note} {v1 v2 v3 v4 v5 v6 v7 v8 v9 v10 v11 v12 v13 v14 v15 v16 : Int} (h : rcount_t0 (Gr E Tryz.f9 res) v0 v1 v2 v3 v4 v5 v6 v7 v8 v9 v10 v11 v12 v13 v14 v15 v16 = some res) : Ev E Tryz.f9 res 0 (rcount_C0 v0 v1 v2 v3 v4 v5 v6 v7 v8 v9 v10 v11 v12 v13 v14 v15 v16) := Ev.step rcount_hO mix ((rcount_l0 _ v0 v1 v2 v3 v4 v5 v6 v7 v8 v9 v10 v11 v12 v13 v14 v15 v16).trans h)
theorem rcount_ok_of (h : ∀ (x0 : List Note), okLn x0 = true → rcount_t (Gr E Tryz.f9 [⟨.ref47_Tally, tally x0⟩]) x0 = some [⟨.ref47_Tally, tally x0⟩]) : FnOk E rcount_id rcount_W := fn1_ok rcount_hO mix rcount_f rcount_n rcount_b (fun x0 hk => (rcount_e _ x0).trans (h x0 hk))
theorem rcount_0 (l : List Note) (hl : l.length ≤ 100000) : ∀ (m i : Nat) (s : Int × Tally), l.length - i = m → i ≤ l.length → Ev E Tryz.f9 [⟨.ref47_Tally, ((l.drop i).foldl tstep s).2⟩] 0 (rcount_C0 l s.1 i 0 0 0 0 0 0 0 s.2.calls s.2.faults s.2.row s.2.waits s.2.overs s.2.crashes s.2.others) := by
  intro m
  induction m with
  | zero =>
    intro i s hi hle
    refine rcount_s0 ?_
    simp only [rcount_t0, dge (show l.length ≤ i by omega), cond_false, List.drop_eq_nil_of_le (show l.length ≤ i by omega)]
    rfl
  | succ m ih =>
    intro i s hi hle
    have h : i < l.length := by omega
    obtain ⟨row, c, f, r, w, o, x, t⟩ := s
    refine rcount_s0 ?_
    rw [List.drop_eq_getElem_cons h, List.foldl_cons]
    have next := Gr_of (ih (i + 1) (tstep (row, ⟨c, f, r, w, o, x, t⟩) l[i]) (by omega) (by omega))
    simp only [rcount_t0, dlt h, d0, Bool.and_self, cond_true, gd l (dflt .ref44_Note) i h, w1 (show i ≤ 1000000 by omega)]
    rcases kinds l[i].kind with ⟨k2, k3, k4, k8, k9⟩ | ⟨k2, k3, k4, k8, k9⟩ | ⟨k2, k3, k4, k8, k9⟩ | ⟨k2, k3, k4, k8, k9⟩ | ⟨k2, k3, k4, k8, k9⟩ | ⟨k2, k3, k4, k8, k9⟩ <;> rcases errs l[i].e with ⟨e15, e0⟩ | ⟨e15, e0⟩ | ⟨e15, e0⟩ <;> cases hr : decide (r < w64 (row + 1)) <;>
    · simp only [tstep, inc, fltB, k2, k3, k4, k8, k9, e15, e0, hr, cond_true, cond_false] at next ⊢
      exact next
theorem rcount_ok : FnOk E rcount_id rcount_W := rcount_ok_of fun l hk => by
  have := rcount_0 l (of_decide_eq_true hk) _ 0 (0, ⟨0, 0, 0, 0, 0, 0, 0⟩) rfl (Nat.zero_le _)
  rw [List.drop_zero] at this
  exact Gr_of this
end Go.Proofs.YtjpmmpomloldmaaGreat.Rf
namespace Go.Proofs.YtjpmmpomloldmaaGreat.Rf
open Go Go.RowKit Go.Proofs.YtjpmmpomloldmaaGreat.Mir
def cc_id : FuncId := 33
def cc_T : TypeId := 70
theorem cc_ex : ∃ fn, Tryz.prog.funcs[cc_id]? = some fn ∧ (fn.name == "runtime.NumGoroutine") = false ∧ fn.body.isNone = false := ⟨Tryz.f33, by kernel_rfl, by kernel_rfl, by kernel_rfl⟩
section
open Go.RowKit
set_option maxHeartbeats 1000000 in
set_option maxRecDepth 100000 in
theorem cc_fresh (w : World) (b : Nat) (h0 : w.cell? ⟨b, 0, none⟩ = some (.pointer none)) (hsh : w.shape? b = some (70, 2)) (hfz : w.frozen? ⟨b, 0, none⟩ = false) :
    Calls Tryz.prog 33 #[.pointer (some ⟨b, 0, none⟩)] w fun e w' => e = .returned (.tuple #[]) ∧ w' = w.setCell ⟨b, 0, none⟩ (.pointer (some ⟨b, 0, none⟩)) := by
  have hs : (Tryz.prog.info? 70).map (·.size) = some 2 := by kernel_rfl
  obtain ⟨j, hj, hjs⟩ := Option.map_eq_some_iff.1 hs
  have hlies : liesAt Tryz.prog Tryz.prog.depth 70 (2 / Tryz.prog.cellsOf 70) 0 70 1 = true := by kernel_rfl
  go_enter Tryz.func33, Tryz.ntmps33
  go_wp2
  rw [Lib.run_to_unsafe w ⟨b, 0, none⟩ Tryz.underlying67 Tryz.underlying113 hj (by rw [hjs]; decide) hsh (Nat.zero_lt_succ 1)]
  simp only [Result.andThen]
  rw [Oper.upon_value]
  go_wp2
  rw [run_callFunc_extern Tryz.func55 (by kernel_rfl) (by kernel_rfl) (by kernel_rfl) (e := Extern.AbiNoEscape.same) (by kernel_rfl)]
  rw [Lib.run_noEscape]
  simp only [Result.andThen]
  rw [Oper.upon_value]
  go_wp2
  rw [Lib.run_from_unsafe w ⟨b, 0, none⟩ Tryz.underlying113 Tryz.underlying67 hj hsh hlies]
  simp only [Result.andThen]
  rw [Oper.upon_value]
  go_wp2
  go_end0
  exact ⟨rfl, rfl⟩
set_option maxHeartbeats 1000000 in
set_option maxRecDepth 100000 in
theorem cc_used (w : World) (b : Nat) (h0 : w.cell? ⟨b, 0, none⟩ = some (.pointer (some ⟨b, 0, none⟩))) :
    Calls Tryz.prog 33 #[.pointer (some ⟨b, 0, none⟩)] w fun e w' => e = .returned (.tuple #[]) ∧ w' = w := by
  have hs : (Tryz.prog.info? 70).map (·.size) = some 2 := by kernel_rfl
  obtain ⟨j, hj, _⟩ := Option.map_eq_some_iff.1 hs
  go_enter Tryz.func33, Tryz.ntmps33
  go_wp2
  rw [Lib.run_neq_ptr_same w _ Tryz.underlying67 hj]
  go_wp2
  go_end0
  exact ⟨rfl, rfl⟩
end
theorem cc_ok : CopyOk Tryz.prog cc_id cc_T := ⟨fun w b h0 h1 h2 => cc_fresh w b h0 h1 h2, fun w b h0 => cc_used w b h0⟩
noncomputable def awake_W : FnW E := fn0 (E := E) .bool true true
def awake_id : FuncId := 5
noncomputable def awake_T : List (FuncId × Func) := [(12, Tryz.f12), (17, Tryz.f17), (32, Tryz.f32), (53, Tryz.f53), (54, Tryz.f54), (18, Tryz.f18), (19, Tryz.f19), (20, Tryz.f20), (34, Tryz.f34), (56, Tryz.f56), (77, Tryz.f77), (96, Tryz.f96), (57, Tryz.f57), (58, Tryz.f58), (59, Tryz.f59), (78, Tryz.f78), (60, Tryz.f60), (79, Tryz.f79), (35, Tryz.f35), (36, Tryz.f36), (21, Tryz.f21), (22, Tryz.f22), (23, Tryz.f23), (13, Tryz.f13), (24, Tryz.f24), (25, Tryz.f25), (37, Tryz.f37), (38, Tryz.f38)]
noncomputable def awake_hs : List (FuncId × Hint E) := [(12, ({ rounds := 20, lst := [18] } : Hint E)), (32, ({ rounds := 20 } : Hint E)), (53, ({ rounds := 20 } : Hint E)), (77, ({ rounds := 20 } : Hint E)), (96, ({ rounds := 20 } : Hint E)), (58, ({ rounds := 20 } : Hint E)), (35, ({ rounds := 20 } : Hint E)), (21, ({ rounds := 20, opn := [(13, [3])] } : Hint E)), (13, ({ rounds := 20 } : Hint E)), (24, ({ rounds := 20 } : Hint E))]
noncomputable def awake_O : Oracle E := withI (withC (orac [(8, acount_W)] [] [] []) cc_id cc_T) awake_T awake_hs 12
theorem awake_tb : TblOk Tryz.prog awake_T := .cons Tryz.func12 (by kernel_rfl) (by kernel_rfl) <| .cons Tryz.func17 (by kernel_rfl) (by kernel_rfl) <| .cons Tryz.func32 (by kernel_rfl) (by kernel_rfl) <| .cons Tryz.func53 (by kernel_rfl) (by kernel_rfl) <| .cons Tryz.func54 (by kernel_rfl) (by kernel_rfl) <| .cons Tryz.func18 (by kernel_rfl) (by kernel_rfl) <| .cons Tryz.func19 (by kernel_rfl) (by kernel_rfl) <| .cons Tryz.func20 (by kernel_rfl) (by kernel_rfl) <| .cons Tryz.func34 (by kernel_rfl) (by kernel_rfl) <| .cons Tryz.func56 (by kernel_rfl) (by kernel_rfl) <| .cons Tryz.func77 (by kernel_rfl) (by kernel_rfl) <| .cons Tryz.func96 (by kernel_rfl) (by kernel_rfl) <| .cons Tryz.func57 (by kernel_rfl) (by kernel_rfl) <| .cons Tryz.func58 (by kernel_rfl) (by kernel_rfl) <| .cons Tryz.func59 (by kernel_rfl) (by kernel_rfl) <| .cons Tryz.func78 (by kernel_rfl) (by kernel_rfl) <| .cons Tryz.func60 (by kernel_rfl) (by kernel_rfl) <| .cons Tryz.func79 (by kernel_rfl) (by kernel_rfl) <| .cons Tryz.func35 (by kernel_rfl) (by kernel_rfl) <| .cons Tryz.func36 (by kernel_rfl) (by kernel_rfl) <| .cons Tryz.func21 (by kernel_rfl) (by kernel_rfl) <| .cons Tryz.func22 (by kernel_rfl) (by kernel_rfl) <| .cons Tryz.func23 (by kernel_rfl) (by kernel_rfl) <| .cons Tryz.func13 (by kernel_rfl) (by kernel_rfl) <| .cons Tryz.func24 (by kernel_rfl) (by kernel_rfl) <| .cons Tryz.func25 (by kernel_rfl) (by kernel_rfl) <| .cons Tryz.func37 (by kernel_rfl) (by kernel_rfl) <| .cons Tryz.func38 (by kernel_rfl) (by kernel_rfl) <| .nil
theorem awake_hO : OracleOk E awake_O := withI_ok (withC_ok (orac_ok (.cons acount_ok .nil) .nil .nil .nil) cc_ex cc_ok) mix awake_tb
theorem awake_e (G : Nat → ASt E → Option (List (TV E))) : runE awake_O {} G Tryz.f5 [] = some [⟨.bool, true⟩] := by kernel_rfl
theorem awake_ok : FnOk E awake_id awake_W := fn0_ok awake_hO mix (by kernel_rfl) (by kernel_rfl) (by kernel_rfl) (fun _ => awake_e _)
end Go.Proofs.YtjpmmpomloldmaaGreat.Rf
namespace Go.Proofs.YtjpmmpomloldmaaGreat.Rf
open Go Go.RowKit Go.Proofs.YtjpmmpomloldmaaGreat.Mir
noncomputable def law_W : FnW E := fn2 (E := E) .l_ref44_Note .int .bool (fun _ _ => true) (fun _ _ => true)
def law_id : FuncId := 3
noncomputable def law_O : Oracle E := orac [(6, aans_W), (10, abeat_W), (8, acount_W), (4, few_W), (5, awake_W), (7, rans_W), (11, rbt_W), (9, rcount_W)] [] [] []
noncomputable def law_H : Hint E := Hint.mk [(0, [0, 1, 5, 6]), (1, [0, 1, 5, 7, 8, 9])] [] [(0, [(5, none, true, .event_Note)])] [] [] 5 []
noncomputable def law_C0 (v0 : List Note) (v1 : Int) (v2 : List Note) (v3 : Int) : ASt E := ASt.mk 70 [(0, .d (.slice .ref44_Note v0)), (1, .d (.int .i64 v1)), (5, .grow .event_Note v2 0), (6, .d (.int .i64 v3))] [(0, .tail true)] 1
noncomputable def law_C1 (v0 : List Note) (v1 : Int) (v2 : List Note) (v3 v4 : List Bool) (v5 : Int) : ASt E := ASt.mk 70 [(0, .d (.slice .ref44_Note v0)), (1, .d (.int .i64 v1)), (5, .grow .event_Note v2 0), (7, .d (.slice .bool v3)), (8, .d (.slice .bool v4)), (9, .d (.int .i64 v5))] [(0, .tail true)] 1
noncomputable def law_t (G : Nat → ASt E → Option (List (TV E))) (x0 : List Note) (x1 : Int) : Option (List (TV E)) :=
  bif (okFew x0 100) then (bif (!(fewV x0 100)) then some [⟨.bool, true⟩] else G 0 (law_C0 x0 x1 ([] : List Note) 0)) else none
theorem law_e (G : Nat → ASt E → Option (List (TV E))) (x0 : List Note) (x1 : Int) : runE law_O law_H G Tryz.f3 [⟨.l_ref44_Note, x0⟩, ⟨.int, x1⟩] = law_t G x0 x1 := by kernel_rfl
noncomputable def law_t0 (G : Nat → ASt E → Option (List (TV E))) (v0 : List Note) (v1 : Int) (v2 : List Note) (v3 : Int) : Option (List (TV E)) :=
  bif (decide (v3 < (v0.length : Int))) then (bif (decide ((0 : Int) ≤ v3) && decide (v3 < (v0.length : Int))) then (bif (decide ((v2.length + ([(⟨(List.getD v0 (Int.toNat v3) (dflt .ref44_Note)).at_, (List.getD v0 (Int.toNat v3) (dflt .ref44_Note)).kind, (List.getD v0 (Int.toNat v3) (dflt .ref44_Note)).project, ⟨((List.getD v0 (Int.toNat v3) (dflt .ref44_Note)).call).kind, ((List.getD v0 (Int.toNat v3) (dflt .ref44_Note)).call).name, ((List.getD v0 (Int.toNat v3) (dflt .ref44_Note)).call).id, ⟨(((List.getD v0 (Int.toNat v3) (dflt .ref44_Note)).call).spec).name, (((List.getD v0 (Int.toNat v3) (dflt .ref44_Note)).call).spec).project, (((List.getD v0 (Int.toNat v3) (dflt .ref44_Note)).call).spec).service, (((List.getD v0 (Int.toNat v3) (dflt .ref44_Note)).call).spec).number, (((List.getD v0 (Int.toNat v3) (dflt .ref44_Note)).call).spec).hash, (((List.getD v0 (Int.toNat v3) (dflt .ref44_Note)).call).spec).nets, (((List.getD v0 (Int.toNat v3) (dflt .ref44_Note)).call).spec).vols, ((((List.getD v0 (Int.toNat v3) (dflt .ref44_Note)).call).spec).health), (((List.getD v0 (Int.toNat v3) (dflt .ref44_Note)).call).spec).restart, (((List.getD v0 (Int.toNat v3) (dflt .ref44_Note)).call).spec).tries⟩⟩, (List.getD v0 (Int.toNat v3) (dflt .ref44_Note)).id, (List.getD v0 (Int.toNat v3) (dflt .ref44_Note)).what, (List.getD v0 (Int.toNat v3) (dflt .ref44_Note)).e⟩ : Note)] : List Note).length) * 264 ≤ maxBytes)) then G 0 (law_C0 v0 v1 (v2 ++ ([(⟨(List.getD v0 (Int.toNat v3) (dflt .ref44_Note)).at_, (List.getD v0 (Int.toNat v3) (dflt .ref44_Note)).kind, (List.getD v0 (Int.toNat v3) (dflt .ref44_Note)).project, ⟨((List.getD v0 (Int.toNat v3) (dflt .ref44_Note)).call).kind, ((List.getD v0 (Int.toNat v3) (dflt .ref44_Note)).call).name, ((List.getD v0 (Int.toNat v3) (dflt .ref44_Note)).call).id, ⟨(((List.getD v0 (Int.toNat v3) (dflt .ref44_Note)).call).spec).name, (((List.getD v0 (Int.toNat v3) (dflt .ref44_Note)).call).spec).project, (((List.getD v0 (Int.toNat v3) (dflt .ref44_Note)).call).spec).service, (((List.getD v0 (Int.toNat v3) (dflt .ref44_Note)).call).spec).number, (((List.getD v0 (Int.toNat v3) (dflt .ref44_Note)).call).spec).hash, (((List.getD v0 (Int.toNat v3) (dflt .ref44_Note)).call).spec).nets, (((List.getD v0 (Int.toNat v3) (dflt .ref44_Note)).call).spec).vols, ((((List.getD v0 (Int.toNat v3) (dflt .ref44_Note)).call).spec).health), (((List.getD v0 (Int.toNat v3) (dflt .ref44_Note)).call).spec).restart, (((List.getD v0 (Int.toNat v3) (dflt .ref44_Note)).call).spec).tries⟩⟩, (List.getD v0 (Int.toNat v3) (dflt .ref44_Note)).id, (List.getD v0 (Int.toNat v3) (dflt .ref44_Note)).what, (List.getD v0 (Int.toNat v3) (dflt .ref44_Note)).e⟩ : Note)] : List Note)) (w64 (v3 + (1 : Int)))) else none) else none) else (bif (okL v2 v1) then (bif (okL v0 v1) then (bif (((ansV v2 v1).length : Int) != ((ansV v0 v1).length : Int)) then some [⟨.bool, false⟩] else G 1 (law_C1 v0 v1 v2 (ansV v2 v1) (ansV v0 v1) 0)) else none) else none)
theorem law_l0 (G : Nat → ASt E → Option (List (TV E))) (v0 : List Note) (v1 : Int) (v2 : List Note) (v3 : Int) : runL law_O law_H G Tryz.f3 0 (law_C0 v0 v1 v2 v3) = law_t0 G v0 v1 v2 v3 := by kernel_rfl
noncomputable def law_t1 (G : Nat → ASt E → Option (List (TV E))) (v0 : List Note) (v1 : Int) (v2 : List Note) (v3 v4 : List Bool) (v5 : Int) : Option (List (TV E)) :=
  bif (decide (v5 < (v3.length : Int))) then (bif (decide ((0 : Int) ≤ v5) && decide (v5 < (v3.length : Int))) then (bif (decide ((0 : Int) ≤ v5) && decide (v5 < (v4.length : Int))) then (bif (!((List.getD v3 (Int.toNat v5) (dflt .bool)) == (List.getD v4 (Int.toNat v5) (dflt .bool)))) then some [⟨.bool, false⟩] else G 1 (law_C1 v0 v1 v2 v3 v4 (w64 (v5 + (1 : Int))))) else none) else none) else (bif (okLn v2) then (bif (okLn v0) then (bif ((okL v2 v1) || !(((tally v2).calls == (tally v0).calls) && (((tally v2).faults == (tally v0).faults) && (((tally v2).row == (tally v0).row) && (((tally v2).waits == (tally v0).waits) && (((tally v2).overs == (tally v0).overs) && (((tally v2).crashes == (tally v0).crashes) && (((tally v2).others == (tally v0).others) && true)))))))) then (bif ((okL v0 v1) || !(((tally v2).calls == (tally v0).calls) && (((tally v2).faults == (tally v0).faults) && (((tally v2).row == (tally v0).row) && (((tally v2).waits == (tally v0).waits) && (((tally v2).overs == (tally v0).overs) && (((tally v2).crashes == (tally v0).crashes) && (((tally v2).others == (tally v0).others) && true)))))))) then some [⟨.bool, (bif (bif (((tally v2).calls == (tally v0).calls) && (((tally v2).faults == (tally v0).faults) && (((tally v2).row == (tally v0).row) && (((tally v2).waits == (tally v0).waits) && (((tally v2).overs == (tally v0).overs) && (((tally v2).crashes == (tally v0).crashes) && (((tally v2).others == (tally v0).others) && true))))))) then ((bt v2 v1) == (bt v0 v1)) else false) then true else false)⟩] else none) else none) else none) else none)
theorem law_l1 (G : Nat → ASt E → Option (List (TV E))) (v0 : List Note) (v1 : Int) (v2 : List Note) (v3 v4 : List Bool) (v5 : Int) : runL law_O law_H G Tryz.f3 1 (law_C1 v0 v1 v2 v3 v4 v5) = law_t1 G v0 v1 v2 v3 v4 v5 := by kernel_rfl
theorem law_f : Tryz.prog.funcs[3]? = some Tryz.f3 := by kernel_rfl
theorem law_n : (Tryz.f3.name == "runtime.NumGoroutine") = false := by kernel_rfl
theorem law_b : Tryz.f3.body.isNone = false := by kernel_rfl
theorem law_hO : OracleOk E law_O := orac_ok (.cons aans_ok (.cons abeat_ok (.cons acount_ok (.cons few_ok (.cons awake_ok (.cons rans_ok (.cons rbt_ok (.cons rcount_ok .nil)))))))) .nil .nil .nil
theorem law_s0 {res : List (TV E)} {v0 : List Note} {v1 : Int} {v2 : List Note} {v3 : Int} (h : law_t0 (Gr E Tryz.f3 res) v0 v1 v2 v3 = some res) : Ev E Tryz.f3 res 0 (law_C0 v0 v1 v2 v3) := Ev.step law_hO mix ((law_l0 _ v0 v1 v2 v3).trans h)
theorem law_s1 {res : List (TV E)} {v0 : List Note} {v1 : Int} {v2 : List Note} {v3 v4 : List Bool} {v5 : Int} (h : law_t1 (Gr E Tryz.f3 res) v0 v1 v2 v3 v4 v5 = some res) : Ev E Tryz.f3 res 1 (law_C1 v0 v1 v2 v3 v4 v5) := Ev.step law_hO mix ((law_l1 _ v0 v1 v2 v3 v4 v5).trans h)
theorem law_ok_of (h : ∀ (x0 : List Note) (x1 : Int), law_t (Gr E Tryz.f3 [⟨.bool, (fun _ _ => true) x0 x1⟩]) x0 x1 = some [⟨.bool, (fun _ _ => true) x0 x1⟩]) : FnOk E law_id law_W := fn2_ok law_hO mix law_f law_n law_b (fun x0 x1 _ => (law_e _ x0 x1).trans (h x0 x1))
theorem law_1 (l : List Note) (id : Int) (hl : l.length ≤ 100) : ∀ (m i : Nat), (ansV l id).length - i = m → i ≤ (ansV l id).length → Ev E Tryz.f3 [⟨.bool, true⟩] 1 (law_C1 l id l (ansV l id) (ansV l id) i) := by
  have ha := ansV_len l id
  have o1 : okLn l = true := decide_eq_true (by omega)
  have o2 : okL l id = true := o1
  intro m
  induction m with
  | zero =>
    intro i hi hle
    refine law_s1 ?_
    simp only [law_t1, dge (show (ansV l id).length ≤ i by omega), cond_false, o1, o2, cond_true, beq_self_eq_true, Bool.and_self, Bool.true_or]
  | succ m ih =>
    intro i hi hle
    have h : i < (ansV l id).length := by omega
    refine law_s1 ?_
    simp only [law_t1, dlt h, d0, Bool.and_self, cond_true, gd (ansV l id) (dflt .bool) i h, w1 (show i ≤ 1000000 by omega), beq_self_eq_true, Bool.not_true, cond_false]
    exact Gr_of (ih (i + 1) (by omega) (by omega))
theorem law_0 (l : List Note) (id : Int) (hl : l.length ≤ 100) : ∀ (m i : Nat), l.length - i = m → i ≤ l.length → Ev E Tryz.f3 [⟨.bool, true⟩] 0 (law_C0 l id (l.take i) i) := by
  have o2 : okL l id = true := decide_eq_true (by omega)
  intro m
  induction m with
  | zero =>
    intro i hi hle
    refine law_s0 ?_
    have e : l.take i = l := List.take_of_length_le (by omega)
    simp only [law_t0, dge (show l.length ≤ i by omega), cond_false, e, o2, cond_true, bne_self_eq_false]
    exact Gr_of (law_1 l id hl _ 0 rfl (Nat.zero_le _))
  | succ m ih =>
    intro i hi hle
    have h : i < l.length := by omega
    refine law_s0 ?_
    simp only [law_t0, dlt h, d0, Bool.and_self, cond_true, gd l (dflt .ref44_Note) i h, w1 (show i ≤ 1000000 by omega), note_eta]
    have hm : decide (((l.take i).length + [l[i]].length) * 264 ≤ maxBytes) = true := dT (by rw [mb]; simp; omega)
    have e : l.take i ++ [l[i]] = l.take (i + 1) := List.take_append_getElem h
    rw [hm, cond_true, e]
    exact Gr_of (ih (i + 1) (by omega) (by omega))
theorem law_ok : FnOk E law_id law_W := law_ok_of fun l id => by
  have o1 : okFew l 100 = true := rfl
  simp only [law_t, o1, cond_true]
  cases hf : fewV l 100 with
  | false => rfl
  | true =>
    have hl : l.length ≤ 100 := by
      unfold fewV at hf
      by_cases h : (100 : Int) < (l.length : Int)
      · rw [dT h] at hf; cases hf
      · omega
    exact Gr_of (law_0 l id hl _ 0 rfl (Nat.zero_le _))
end Go.Proofs.YtjpmmpomloldmaaGreat.Rf
namespace Go.Proofs.YtjpmmpomloldmaaGreat.Mir
open Go Go.RowKit Go.Deep
def below (w : World) : Nat → Nat → Prop := fun k _ => k < w.heap.size
section
variable {P : Program} {E : Env P}
def Opens (E : Env P) (T : TypeId) (R : List (DVal E.Den) → Prop) : Prop :=
  ∀ {H : Type} (enc : TypeId × Value → H) (w : World) (base : Nat) (spare : Nat → Bool) (held : Bool) (fuel : Nat) (cs : List Value) (x : DataW H × List MemPlace), DataW.trod enc P w base spare held fuel T cs = some x →
    ∃ ds, R ds ∧ cs.length = ds.length ∧ ∀ (j : Nat) v d, cs[j]? = some v → ds[j]? = some d → DRep E w (below w) v d
def OpensT (E : Env P) (t : E.Ty) : Prop := Opens E (E.tid t) fun ds => ∃ x, ds = E.cells t x
theorem one_cell {w : World} {v : Value} {d : DVal E.Den} (h : DRep E w (below w) v d) : ∀ (j : Nat) u e, [v][j]? = some u → [d][j]? = some e → DRep E w (below w) u e := by
  intro j u e hu he
  cases j with
  | zero => simp at hu he; subst hu; subst he; exact h
  | succ j => simp at hu
theorem opens_int {T : TypeId} {k : IntKind} (hT : P.underlying T = some (.int k)) : Opens E T fun ds => ∃ n, ds = [.int k n] := by
  intro H enc w base spare held fuel cs x h
  obtain ⟨n, rfl, _, _⟩ := DataW.trod_int hT h
  exact ⟨[.int k n], ⟨n, rfl⟩, rfl, one_cell (.int k n)⟩
theorem opens_str {T : TypeId} (hT : P.underlying T = some .string) : Opens E T fun ds => ∃ s : List UInt8, ds = [.str s] ∧ s.length ≤ maxLen := by
  intro H enc w base spare held fuel cs x h
  obtain ⟨s, rfl, _, hs⟩ := DataW.trod_string hT h
  refine ⟨[.str s.data.toList], ⟨_, rfl, by rw [Array.length_toList]; exact hs⟩, rfl, one_cell ?_⟩
  have := DRep.str (E := E) (w := w) (ro := below w) s.data.toList
  simpa using this
theorem cell_in {w : World} {a : Addr} {u : Value} (h : w.cell? a = some u) : a.block < w.heap.size := by
  rcases Nat.lt_or_ge a.block w.heap.size with hl | hl
  · exact hl
  · unfold World.cell? at h
    rw [Array.getElem?_eq_none hl] at h
    cases h
theorem opens_slice {T : TypeId} {t : E.Ty} (hT : P.underlying T = some (.slice (E.tid t))) (ht : OpensT E t) (hC : P.cellsOf (E.tid t) = E.size t) : Opens E T fun ds => ∃ l, ds = [.slice t l] := by
  intro H enc w base spare held fuel cs x h
  rcases open_slice hT h with ⟨rfl, _⟩ | ⟨a, len, cap, m, n, D, Pl, rfl, hb, hl, hm, hmm, hx, hi⟩
  · exact ⟨[.slice t []], ⟨[], rfl⟩, rfl, one_cell (.nil t none 0)⟩
  · have hle : len ≤ m := by rw [hmm]; split <;> omega
    have hpos := E.size_pos t
    have key : ∀ i, i < len → ∃ x : E.Den t, ∀ (j : Nat) c, (E.cells t x)[j]? = some c → ∃ u, w.cell? (a.add (i * E.size t + j)) = some u ∧ DRep E w (below w) u c := by
      intro i hil
      obtain ⟨cs', hc, htr⟩ := hi i (by omega)
      rw [hC] at hc
      obtain ⟨ds, ⟨y, rfl⟩, hlen, hd⟩ := ht enc w base spare held n cs' _ htr
      obtain ⟨_, hcl, hat⟩ := World.cells?_some hc
      refine ⟨y, fun j c hj => ?_⟩
      have hjl : j < E.size t := by rw [← E.cells_len t y]; exact (List.getElem?_eq_some_iff.1 hj).1
      have hcj := hat j hjl
      have hv : cs'[j]? = some (cs'[j]'(by omega)) := List.getElem?_eq_getElem (by omega)
      refine ⟨_, ?_, hd j _ c hv hj⟩
      rw [← Go.Deep.add_add, hcj, hv]
    let pick : Nat → E.Den t := fun i => if hil : i < len then Classical.choose (key i hil) else E.dflt t
    have hpick : ∀ i, i < len → ∀ (j : Nat) c, (E.cells t (pick i))[j]? = some c → ∃ u, w.cell? (a.add (i * E.size t + j)) = some u ∧ DRep E w (below w) u c := by
      intro i hil
      have := Classical.choose_spec (key i hil)
      simpa only [pick, dif_pos hil] using this
    refine ⟨[.slice t ((List.range len).map pick)], ⟨_, rfl⟩, rfl, one_cell ?_⟩
    by_cases h0 : len = 0
    · subst h0
      exact .nil t _ _
    · obtain ⟨g, off, spot⟩ := a
      have hsp : spot = none := by
        have hc0 : 0 < (E.cells t (pick 0)).length := by rw [E.cells_len]; exact hpos
        obtain ⟨u, hu, _⟩ := hpick 0 (by omega) 0 _ (List.getElem?_eq_getElem hc0)
        have := World.cell?_spot hu
        unfold Addr.add at this
        split at this
        · simpa using this
        · rename_i hne; exact absurd (by simp) hne
      subst hsp
      have hlen : ((List.range len).map pick).length = len := by simp
      have at_ : ∀ i x j c, ((List.range len).map pick)[i]? = some x → (E.cells t x)[j]? = some c → ∃ u, w.cell? ⟨g, off + i * E.size t + j, none⟩ = some u ∧ DRep E w (below w) u c := by
        intro i x j c hix hj
        have hil : i < len := by have := (List.getElem?_eq_some_iff.1 hix).1; simpa using this
        have hx' : x = pick i := by simp [hil] at hix; exact hix.symm
        subst hx'
        obtain ⟨u, hu, hd⟩ := hpick i hil j c hj
        rw [show (⟨g, off, none⟩ : Addr).add (i * E.size t + j) = ⟨g, off + (i * E.size t + j), none⟩ from by unfold Addr.add; split <;> simp_all] at hu
        rw [← Nat.add_assoc] at hu
        exact ⟨u, hu, hd⟩
      have := DRep.slice (E := E) (w := w) (ro := below w) t ((List.range len).map pick) g off cap (fun i j => (w.cell? ⟨g, off + i * E.size t + j, none⟩).getD undef) (by rw [hlen]; exact hl)
        (fun i x j c hix hj => by
          obtain ⟨u, hu, _⟩ := at_ i x j c hix hj
          exact ⟨cell_in hu, by rw [hu]; rfl⟩)
        (fun i x j c hix hj => by
          obtain ⟨u, hu, hd⟩ := at_ i x j c hix hj
          simp only [hu, Option.getD_some]
          exact hd)
      rw [hlen] at this
      exact this
def RAll : List (List (DVal E.Den) → Prop) → List (DVal E.Den) → Prop
  | [], ds => ds = []
  | R :: Rs, ds => ∃ a b, R a ∧ ds = a ++ b ∧ RAll Rs b
def FOpens (E : Env P) (n : Nat) : Nat → List Field → List (List (DVal E.Den) → Prop) → Prop
  | off, [], [] => off = n
  | off, f :: fs, R :: Rs => f.offset = off ∧ Opens E f.type R ∧ FOpens E n (off + P.cellsOf f.type) fs Rs
  | _, _, _ => False
theorem fopens_sound {H : Type} {enc : TypeId × Value → H} {w : World} {base : Nat} {spare : Nat → Bool} {held : Bool} {n fuel : Nat} {cs : List Value} (hn : cs.length = n) : ∀ (fl : List Field) (Rs : List (List (DVal E.Den) → Prop)) (off : Nat), FOpens E n off fl Rs →
    (∀ f ∈ fl, ∃ y, DataW.trod enc P w base spare held fuel f.type ((cs.drop f.offset).take (P.cellsOf f.type)) = some y) →
    ∃ ds, RAll Rs ds ∧ (cs.drop off).length = ds.length ∧ ∀ (j : Nat) v d, (cs.drop off)[j]? = some v → ds[j]? = some d → DRep E w (below w) v d
  | [], [], off, h, _ => by
    have h : off = n := h
    subst h
    exact ⟨[], rfl, by simp [hn], fun j v d _ hd => by simp at hd⟩
  | f :: fl, R :: Rs, off, h, hf => by
    obtain ⟨ho, hR, hrest⟩ := h
    subst ho
    obtain ⟨y, hy⟩ := hf f List.mem_cons_self
    obtain ⟨d1, hR1, hl1, hd1⟩ := hR enc w base spare held fuel _ _ hy
    obtain ⟨d2, hR2, hl2, hd2⟩ := fopens_sound hn fl Rs _ hrest fun g hg => hf g (List.mem_cons_of_mem _ hg)
    rw [← List.drop_drop] at hl2 hd2
    generalize hA : (cs.drop f.offset).take (P.cellsOf f.type) = A at *
    generalize hB : (cs.drop f.offset).drop (P.cellsOf f.type) = B at *
    have hsplit : cs.drop f.offset = A ++ B := by rw [← hA, ← hB, List.take_append_drop]
    refine ⟨d1 ++ d2, ⟨d1, d2, hR1, rfl, hR2⟩, by rw [hsplit, List.length_append, List.length_append, hl1, hl2], fun j v d hv hd => ?_⟩
    rw [hsplit] at hv
    rcases Nat.lt_or_ge j d1.length with hj | hj
    · rw [List.getElem?_append_left (by omega)] at hv
      rw [List.getElem?_append_left hj] at hd
      exact hd1 j v d hv hd
    · rw [List.getElem?_append_right (by omega), hl1] at hv
      rw [List.getElem?_append_right hj] at hd
      exact hd2 _ v d hv hd
  | [], _ :: _, _, h, _ => h.elim
  | _ :: _, [], _, h, _ => h.elim
theorem opens_struct {T : TypeId} {fs : Array Field} {Rs : List (List (DVal E.Den) → Prop)} (hT : P.underlying T = some (.struct fs)) (hF : FOpens E (P.cellsOf T) 0 fs.toList Rs) : Opens E T (RAll Rs) := by
  intro H enc w base spare held fuel cs x h
  obtain ⟨xs, n, rfl, rfl, hl, hlen, hf⟩ := DataW.trod_struct hT h
  obtain ⟨ds, h1, h2, h3⟩ := fopens_sound (enc := enc) (w := w) (base := base) (spare := spare) (held := held) (fuel := n) hl fs.toList Rs 0 hF (fun f hf' => by
    obtain ⟨i, hi⟩ := List.getElem?_of_mem hf'
    have hi' : fs[i]? = some f := by simpa using hi
    have hlt : i < xs.length := by rw [hlen]; exact (Array.getElem?_eq_some_iff.1 hi').1
    exact ⟨xs[i], by rw [hf i f hi', List.getElem?_eq_getElem hlt]⟩)
  exact ⟨ds, h1, by simpa using h2, by simpa using h3⟩
theorem Opens.mono {T : TypeId} {R R' : List (DVal E.Den) → Prop} (h : Opens E T R) (hR : ∀ ds, R ds → R' ds) : Opens E T R' := by
  intro H enc w base spare held fuel cs x hx
  obtain ⟨ds, h1, h2⟩ := h enc w base spare held fuel cs x hx
  exact ⟨ds, hR ds h1, h2⟩
theorem arg_rep {H : Type} {enc : TypeId × Value → H} {w : World} {base : Nat} {spare : Nat → Bool} {held : Bool} {t : E.Ty} (ho : OpensT E t) {v : Value} {d : DataW H} {p : List MemPlace} (hsh : (E.agg t = true ∧ ∃ vs, v = .agg vs) ∨ (E.agg t = false ∧ v.cells = #[v]))
    (h : DataW.Trod enc P w base spare held (E.tid t) v d p) : ∃ x, TRep E w (below w) v t x := by
  obtain ⟨fuel, h⟩ := h
  obtain ⟨ds, ⟨x, rfl⟩, hl, hd⟩ := ho enc w base spare held fuel _ _ h
  refine ⟨x, ?_⟩
  rcases hsh with ⟨ha, vs, rfl⟩ | ⟨ha, hv⟩
  · exact .inl ⟨ha, vs, rfl, by simpa [Value.cells] using hl, fun j u e hu he => hd j u e (by simpa [Value.cells] using hu) he⟩
  · rw [hv] at hl hd
    obtain ⟨c, hc⟩ := single_of_len ((E.cells_len t x).trans (E.one t ha))
    refine .inr ⟨ha, c, hc, hd 0 v c rfl (by rw [hc]; rfl)⟩
end
end Go.Proofs.YtjpmmpomloldmaaGreat.Mir
namespace Go.Proofs.YtjpmmpomloldmaaGreat.Mir
open Go Go.RowKit Go.Deep
section
variable {P : Program} {E : Env P}
def OpensB (E : Env P) (b : Nat) (T : TypeId) (R : List (DVal E.Den) → Prop) : Prop :=
  ∀ {H : Type} (enc : TypeId × Value → H) (w : World) (base : Nat) (spare : Nat → Bool) (held : Bool) (fuel : Nat) (cs : List Value) (x : DataW H × List MemPlace), fuel < b → DataW.trod enc P w base spare held fuel T cs = some x →
    ∃ ds, R ds ∧ cs.length = ds.length ∧ ∀ (j : Nat) v d, cs[j]? = some v → ds[j]? = some d → DRep E w (below w) v d
theorem OpensB.mono {b : Nat} {T : TypeId} {R R' : List (DVal E.Den) → Prop} (h : OpensB E b T R) (hR : ∀ ds, R ds → R' ds) : OpensB E b T R' := fun enc w base spare held fuel cs x hfb hx => by
  obtain ⟨ds, h1, h2⟩ := h enc w base spare held fuel cs x hfb hx
  exact ⟨ds, hR ds h1, h2⟩
end
end Go.Proofs.YtjpmmpomloldmaaGreat.Mir
namespace Go.Proofs.YtjpmmpomloldmaaGreat.Rf
open Go Go.ChangeShapes Go.WideShapes Go.ChangeAt Go.RowKit Go.Proofs.YtjpmmpomloldmaaGreat.Mir
theorem opn_int : OpensT E .int := Opens.mono (E := E) (opens_int (T := 3) (k := .i64) (by kernel_rfl)) fun _ ⟨n, h⟩ => ⟨n, h⟩
theorem opn_str : OpensT E .str := Opens.mono (E := E) (opens_str (T := 9) (by kernel_rfl)) fun _ ⟨n, h, _⟩ => ⟨n, h⟩
theorem opn_l_str : OpensT E .l_str := Opens.mono (E := E) (opens_slice (E := E) (T := 26) (t := .str) (by kernel_rfl) opn_str (by kernel_rfl)) fun _ ⟨l, h⟩ => ⟨l, h⟩
set_option maxRecDepth 100000 in
theorem opn_api_Check : OpensT E .api_Check :=
  Opens.mono (E := E) (opens_struct (E := E) (Rs := [(fun ds => ∃ x, ds = E.cells .str x), (fun ds => ∃ x, ds = E.cells .int x), (fun ds => ∃ x, ds = E.cells .int x), (fun ds => ∃ x, ds = E.cells .int x)]) Tryz.underlying28 ⟨by kernel_rfl, opn_str, by kernel_rfl, opn_int, by kernel_rfl, opn_int, by kernel_rfl, opn_int, (by kernel_rfl : 0 + Tryz.prog.cellsOf 9 + Tryz.prog.cellsOf 3 + Tryz.prog.cellsOf 3 + Tryz.prog.cellsOf 3 = Tryz.prog.cellsOf 28)⟩)
    fun _ ⟨_, _, ⟨x0, h0⟩, g0, _, _, ⟨x1, h1⟩, g1, _, _, ⟨x2, h2⟩, g2, _, _, ⟨x3, h3⟩, g3, g4⟩ => ⟨(⟨x0, x1, x2, x3⟩ : Check), by rw [g0, h0, g1, h1, g2, h2, g3, h3, g4]; rfl⟩
set_option maxRecDepth 100000 in
theorem opn_api_Spec : OpensT E .api_Spec :=
  Opens.mono (E := E) (opens_struct (E := E) (Rs := [(fun ds => ∃ x, ds = E.cells .str x), (fun ds => ∃ x, ds = E.cells .str x), (fun ds => ∃ x, ds = E.cells .str x), (fun ds => ∃ x, ds = E.cells .int x), (fun ds => ∃ x, ds = E.cells .str x), (fun ds => ∃ x, ds = E.cells .l_str x), (fun ds => ∃ x, ds = E.cells .l_str x), (fun ds => ∃ x, ds = E.cells .api_Check x), (fun ds => ∃ x, ds = E.cells .int x), (fun ds => ∃ x, ds = E.cells .int x)]) Tryz.underlying30 ⟨by kernel_rfl, opn_str, by kernel_rfl, opn_str, by kernel_rfl, opn_str, by kernel_rfl, opn_int, by kernel_rfl, opn_str, by kernel_rfl, opn_l_str, by kernel_rfl, opn_l_str, by kernel_rfl, opn_api_Check, by kernel_rfl, opn_int, by kernel_rfl, opn_int, (by kernel_rfl : 0 + Tryz.prog.cellsOf 9 + Tryz.prog.cellsOf 9 + Tryz.prog.cellsOf 9 + Tryz.prog.cellsOf 3 + Tryz.prog.cellsOf 9 + Tryz.prog.cellsOf 26 + Tryz.prog.cellsOf 26 + Tryz.prog.cellsOf 28 + Tryz.prog.cellsOf 3 + Tryz.prog.cellsOf 3 = Tryz.prog.cellsOf 30)⟩)
    fun _ ⟨_, _, ⟨x0, h0⟩, g0, _, _, ⟨x1, h1⟩, g1, _, _, ⟨x2, h2⟩, g2, _, _, ⟨x3, h3⟩, g3, _, _, ⟨x4, h4⟩, g4, _, _, ⟨x5, h5⟩, g5, _, _, ⟨x6, h6⟩, g6, _, _, ⟨x7, h7⟩, g7, _, _, ⟨x8, h8⟩, g8, _, _, ⟨x9, h9⟩, g9, g10⟩ => ⟨(⟨x0, x1, x2, x3, x4, x5, x6, x7, x8, x9⟩ : Spec), by rw [g0, h0, g1, h1, g2, h2, g3, h3, g4, h4, g5, h5, g6, h6, g7, h7, g8, h8, g9, h9, g10]; rfl⟩
set_option maxRecDepth 100000 in
theorem opn_api_Call : OpensT E .api_Call :=
  Opens.mono (E := E) (opens_struct (E := E) (Rs := [(fun ds => ∃ x, ds = E.cells .int x), (fun ds => ∃ x, ds = E.cells .str x), (fun ds => ∃ x, ds = E.cells .int x), (fun ds => ∃ x, ds = E.cells .api_Spec x)]) Tryz.underlying32 ⟨by kernel_rfl, opn_int, by kernel_rfl, opn_str, by kernel_rfl, opn_int, by kernel_rfl, opn_api_Spec, (by kernel_rfl : 0 + Tryz.prog.cellsOf 3 + Tryz.prog.cellsOf 9 + Tryz.prog.cellsOf 3 + Tryz.prog.cellsOf 30 = Tryz.prog.cellsOf 32)⟩)
    fun _ ⟨_, _, ⟨x0, h0⟩, g0, _, _, ⟨x1, h1⟩, g1, _, _, ⟨x2, h2⟩, g2, _, _, ⟨x3, h3⟩, g3, g4⟩ => ⟨(⟨x0, x1, x2, x3⟩ : Call), by rw [g0, h0, g1, h1, g2, h2, g3, h3, g4]; rfl⟩
theorem opn_api_Errno : OpensT E .api_Errno := Opens.mono (E := E) (opens_int (T := 33) (k := .i64) (by kernel_rfl)) fun _ ⟨n, h⟩ => ⟨n, h⟩
set_option maxRecDepth 100000 in
theorem opn_ref44_Note : OpensT E .ref44_Note :=
  Opens.mono (E := E) (opens_struct (E := E) (Rs := [(fun ds => ∃ x, ds = E.cells .int x), (fun ds => ∃ x, ds = E.cells .int x), (fun ds => ∃ x, ds = E.cells .str x), (fun ds => ∃ x, ds = E.cells .api_Call x), (fun ds => ∃ x, ds = E.cells .int x), (fun ds => ∃ x, ds = E.cells .int x), (fun ds => ∃ x, ds = E.cells .api_Errno x)]) Tryz.underlying36 ⟨by kernel_rfl, opn_int, by kernel_rfl, opn_int, by kernel_rfl, opn_str, by kernel_rfl, opn_api_Call, by kernel_rfl, opn_int, by kernel_rfl, opn_int, by kernel_rfl, opn_api_Errno, (by kernel_rfl : 0 + Tryz.prog.cellsOf 3 + Tryz.prog.cellsOf 3 + Tryz.prog.cellsOf 9 + Tryz.prog.cellsOf 32 + Tryz.prog.cellsOf 3 + Tryz.prog.cellsOf 3 + Tryz.prog.cellsOf 33 = Tryz.prog.cellsOf 36)⟩)
    fun _ ⟨_, _, ⟨x0, h0⟩, g0, _, _, ⟨x1, h1⟩, g1, _, _, ⟨x2, h2⟩, g2, _, _, ⟨x3, h3⟩, g3, _, _, ⟨x4, h4⟩, g4, _, _, ⟨x5, h5⟩, g5, _, _, ⟨x6, h6⟩, g6, g7⟩ => ⟨(⟨x0, x1, x2, x3, x4, x5, x6⟩ : Note), by rw [g0, h0, g1, h1, g2, h2, g3, h3, g4, h4, g5, h5, g6, h6, g7]; rfl⟩
theorem opn_l_ref44_Note : OpensT E .l_ref44_Note := Opens.mono (E := E) (opens_slice (E := E) (T := 22) (t := .ref44_Note) (by kernel_rfl) opn_ref44_Note (by kernel_rfl)) fun _ ⟨l, h⟩ => ⟨l, h⟩
theorem own : ownKnob Tryz.prog.godebug = none := by kernel_rfl
theorem laidOut : laidOutB Tryz.prog = true := by kernel_rfl
theorem ret_bool {w : World} {ro : Nat → Nat → Prop} {v : Value} {b : Bool} (h : RetRep E w ro v [⟨.bool, b⟩]) : v = .bool b := by
  rcases h with ⟨ha, _⟩ | ⟨_, c, hc, hd⟩
  · cases ha
  · have e : c = .bool b := by
      have : ([.bool b] : List (DVal E.Den)) = [c] := hc
      simpa using this.symm
    subst e
    cases hd
    rfl
set_option maxRecDepth 100000 in
theorem lifted (os : Os) (started : os.Started) (H : Type) (enc : TypeId × Value → H) :
    ReturnsInHanded {} Tryz.checked os 3 .any (Rows.auditCountsSpec.pre6 enc Tryz.prog Tryz.f3 Rows.auditCountsRow.domain false) (Rows.auditCountsSpec.post enc Tryz.prog Tryz.f3 false true false false) := by
  refine returnsInHanded_of_change (C := Tryz.checked) own started (by kernel_rfl) Tryz.func3
    (ChangeSpec.witness6 (enc := enc) (C := Tryz.checked) false ⟨#[], #[.slice none 0 0, .int .i64 0], []⟩ 8 (by kernel_rfl) (by kernel_rfl) (by kernel_rfl) (by kernel_rfl)) ?_
  intro W base args ds gs before hval0 hW hcnd _
  have hval : ∀ (j : Nat) t v, Tryz.f3.params[j]? = some t → args[j]? = some v → Value.okWide Tryz.prog W .any base t v := hval0
  have hW' := hW
  obtain ⟨p, q, hA0, hV, rfl, hfz, hnd⟩ := hW
  have hA : DataW.TrodAll enc Tryz.prog W 0 (fun _ => true) true Tryz.f3.params.toList args.toList ds p := hA0
  rw [Tryz.params3] at hA hval
  obtain ⟨v0, vs0, d0, ds0, p0, q0, hargs, rfl, rfl, h0, r0⟩ := trodAll_cons hA
  obtain ⟨v1, vs1, d1, ds1, p1, q1, rfl, rfl, rfl, h1, r1⟩ := trodAll_cons r0
  obtain ⟨rfl, rfl, rfl⟩ := trodAll_nil r1
  obtain rfl : args = #[v0, v1] := by cases args; simp_all
  obtain ⟨rfl, rfl⟩ := trodVars_none hV
  obtain ⟨a0, len0, cap0, rfl⟩ := okWide_slice Tryz.underlying22 (hval 0 22 v0 rfl rfl)
  obtain ⟨n1, rfl⟩ := okWide_int Tryz.underlying3 (hval 1 3 v1 rfl rfl)
  have lt0 : ∀ x ∈ p0, x.block < W.heap.size := by obtain ⟨m, hm⟩ := h0; exact DataW.trod_lt m _ _ _ hm
  have lt1 : ∀ x ∈ p1, x.block < W.heap.size := by obtain ⟨m, hm⟩ := h1; exact DataW.trod_lt m _ _ _ hm
  obtain ⟨x0, t0⟩ := arg_rep (E := E) (t := .l_ref44_Note) opn_l_ref44_Note (.inr ⟨rfl, rfl⟩) h0
  obtain ⟨x1, t1⟩ := arg_rep (E := E) (t := .int) opn_int (.inr ⟨rfl, rfl⟩) h1
  clear hA0 hval0
  refine (law_ok.2 [⟨.l_ref44_Note, x0⟩, ⟨.int, x1⟩] [⟨.bool, true⟩] rfl W (below W) [_, _] ⟨t0, t1, trivial⟩ (fun _ _ h => h)).mono fun e W' ⟨v, he, bel, hret⟩ => ?_
  have hv := ret_bool hret
  subst hv
  subst he
  exact ⟨_, rfl, _, _, _, [], _, [], hW', trodAll_mk1 (shut_bool Tryz.underlying4 _),
    (trodAll_cons_mk (Below.trod laidOut (by kernel_rfl) (of_decide_eq_true (by kernel_rfl)) h0 bel lt0) (trodAll_cons_mk (Below.trod laidOut (by kernel_rfl) (of_decide_eq_true (by kernel_rfl)) h1 bel lt1) trodAll_mk0)), rfl, bel.frame _, fun h => by cases h⟩
theorem over : Rows.auditCountsRow.holds Tryz.pinned (OpenSpec.ofChange Rows.auditCountsSpec) :=
  OpenClaim.holds_of_wide 3 Tryz.f3 rfl rfl rfl rfl rfl rfl rfl ⟨rfl, rfl, rfl, rfl, rfl⟩ rfl rfl rfl rfl rfl (by kernel_rfl) Tryz.func3 (by kernel_rfl)
    (of_decide_eq_true (by kernel_rfl)) (by unfold Func.isWrapper; first | (rw [if_pos (by decide +kernel)]; kernel_rfl) | (rw [if_neg (by decide +kernel)]; exact ⟨rfl, rfl⟩))
    (fun os started H enc _ => lifted os started H enc)
theorem auditCounts_proved : Rows.AuditCountsSaid := over
#print axioms auditCounts_proved
end Go.Proofs.YtjpmmpomloldmaaGreat.Rf
