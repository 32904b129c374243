/- 'SchemaForeign' of chapter 19, closed: what the law's function computes (by the Mirror) gives the given statement, without conditions. -/
import Derived.Test.YtiahkjjfhnfdiaaGreatDoorSf4
import Derived.Sort.Walk0
import Derived.Test.YtiahkjjfhnfdiaaGreatDoorSf6
import Derived.Test.YtiahkjjfhnfdiaaGreatDoorSf3
import Derived.Deep.Slices
import Derived.ChangeSame
import Derived.ChangeArms
import Derived.Test.YtiahkjjfhnfdiaaGreatDoorCards
import Derived.Test.YtiahkjjfhnfdiaaGreatDoorTie
import Derived.WalkKit
import Derived.ProofKit
import Derived.OpenShut
import Derived.ChangeOld
import Derived.Below
import Derived.Carry
import Derived.Lay
import Derived.LaidMore
import Derived.SevenTiedAt
import Derived.Stop.Joined
namespace Go.Proofs.YtiahkjjfhnfdiaaGreatDoor.Rf
open Go Go.RowKit Go.Sort Go.Proofs.YtiahkjjfhnfdiaaGreatDoor.Mir
def inV (l : List (List UInt8)) (s : List UInt8) : Bool := l.any (· == s)
def lastLt (out : List (List UInt8)) (x : List UInt8) : Bool := match out.getLast? with
  | none => true
  | some z => decide (z < x)
theorem last_at (out : List (List UInt8)) (z : List UInt8) (hl : out.length ≤ 1000000) : List.getD (out ++ [z]) (Int.toNat (w64 ((((out ++ [z]).length : Nat) : Int) - 1))) (dflt .str) = z := by
  rw [List.length_append, List.length_singleton, w64_id (by omega) (by omega), show (((out.length + 1 : Nat) : Int) - 1) = (out.length : Int) from by omega, gd _ _ out.length (by simp)]
  simp
theorem cExpr (out : List (List UInt8)) (x : List UInt8) (hl : out.length ≤ 1000000) :
    (bif (((out.length : Nat) : Int) == (0 : Int)) then true else (!(Op.bytesLess x (List.getD out (Int.toNat (w64 (((out.length : Nat) : Int) - 1))) (dflt .str)) || x == (List.getD out (Int.toNat (w64 (((out.length : Nat) : Int) - 1))) (dflt .str))))) = lastLt out x := by
  rcases List.eq_nil_or_concat out with rfl | ⟨o, z, rfl⟩
  · rfl
  · rw [List.concat_eq_append] at hl ⊢
    rw [last_at o z (by simp at hl; omega), eqF (by simp; omega), cond_false, Go.Proofs.bytesLess_eq]
    unfold lastLt
    rw [List.getLast?_concat]
    simp only
    rcases Pl.s_tri z x with h | h | h
    · have h1 : ¬ x < z := Pl.s_asymm h
      have h2 : x ≠ z := fun e => by subst e; exact Pl.s_irrefl _ h
      simp [h, h1, h2]
    · subst h
      simp [Pl.s_irrefl]
    · have h1 : ¬ z < x := Pl.s_asymm h
      simp [h, h1]
theorem okLast (out : List (List UInt8)) (hl : out.length ≤ 1000000) : ((decide ((0 : Int) ≤ (w64 (((out.length : Nat) : Int) - 1))) && decide ((w64 (((out.length : Nat) : Int) - 1)) < (out.length : Nat))) || !(!(((out.length : Nat) : Int) == (0 : Int)))) = true := by
  by_cases h : out.length = 0
  · rw [h]; rfl
  · rw [w64_id (by omega) (by omega), dT (by omega), dT (by omega)]; rfl
structure Pre (l out : List (List UInt8)) : Prop where
  ss : Pl.SS out
  sub : ∀ x ∈ out, x ∈ l
  low : ∀ y ∈ l, y ∉ out → ∀ x ∈ out, x < y
theorem Pre.last {l out : List (List UInt8)} (h : Pre l out) {x : List UInt8} (hx : x ∈ l) : lastLt out x = true ↔ x ∉ out := by
  unfold lastLt
  rcases List.eq_nil_or_concat out with rfl | ⟨o, z, rfl⟩
  · simp
  · rw [List.concat_eq_append] at h ⊢
    rw [List.getLast?_concat]
    simp only [decide_eq_true_eq]
    constructor
    · intro hz hm
      have hs := h.ss
      unfold Pl.SS at hs
      rw [List.pairwise_append] at hs
      rcases List.mem_append.1 hm with hm | hm
      · exact Pl.s_asymm hz (hs.2.2 x hm z (by simp))
      · have : x = z := by simpa using hm
        subst this
        exact Pl.s_irrefl _ hz
    · exact fun hn => h.low x hx hn z (by simp)
def lack (l out : List (List UInt8)) : Nat := l.countP fun x => !decide (x ∈ out)
theorem lack_step (out : List (List UInt8)) (z : List UInt8) (hz : z ∉ out) : ∀ (l : List (List UInt8)), lack l (out ++ [z]) ≤ lack l out ∧ (z ∈ l → lack l (out ++ [z]) + 1 ≤ lack l out)
  | [] => ⟨Nat.le_refl _, fun h => by cases h⟩
  | a :: t => by
    obtain ⟨h1, h2⟩ := lack_step out z hz t
    unfold lack at *
    simp only [List.countP_cons]
    by_cases e : a = z
    · subst e
      have k1 : (!decide (a ∈ out ++ [a])) = false := by simp
      have k2 : (!decide (a ∈ out)) = true := by simpa using hz
      rw [k1, k2]
      simp only [Bool.false_eq_true, if_false, if_true]
      exact ⟨by omega, fun _ => by omega⟩
    · have k : (!decide (a ∈ out ++ [z])) = (!decide (a ∈ out)) := by simp [e]
      rw [k]
      refine ⟨by omega, fun hm => ?_⟩
      have := h2 ((List.mem_cons.1 hm).resolve_left (fun h => e h.symm))
      omega
def Best (l out : List (List UInt8)) (i : Nat) (b : Int) : Prop :=
  (b = -1 ∧ ∀ (k : Nat) x, k < i → l[k]? = some x → x ∈ out) ∨ ∃ (j : Nat) (z : List UInt8), j < i ∧ b = (j : Int) ∧ l[j]? = some z ∧ z ∉ out ∧ ∀ (k : Nat) x, k < i → l[k]? = some x → x ∉ out → z ≤ x
noncomputable def rsorted_W : FnW E := fn1 (E := E) .l_str .l_str ln6 Pl.sortD
def rsorted_id : FuncId := 24
noncomputable def rsorted_O : Oracle E := orac [] [] [] []
noncomputable def rsorted_H : Hint E := { live := [(0, [0, 3]), (1, [0, 3, 4, 5])] }
noncomputable def rsorted_C0 (v0 : List (List UInt8)) (v1 : Nat) (v2 : List (List UInt8)) : ASt E := ASt.mk 55 [(0, .d (.slice .str v0)), (3, .row .str v1 0)] [(0, .row .str v2)] 1
noncomputable def rsorted_C1 (v0 : List (List UInt8)) (v1 : Nat) (v2 v3 : Int) (v4 : List (List UInt8)) : ASt E := ASt.mk 55 [(0, .d (.slice .str v0)), (3, .row .str v1 0), (4, .d (.int .i64 v2)), (5, .d (.int .i64 v3))] [(0, .row .str v4)] 1
noncomputable def rsorted_t (G : Nat → ASt E → Option (List (TV E))) (x0 : List (List UInt8)) : Option (List (TV E)) :=
  G 0 (rsorted_C0 x0 0 [])
theorem rsorted_e (G : Nat → ASt E → Option (List (TV E))) (x0 : List (List UInt8)) : runE rsorted_O rsorted_H G Tryz.f24 [⟨.l_str, x0⟩] = rsorted_t G x0 := by kernel_rfl
noncomputable def rsorted_t0 (G : Nat → ASt E → Option (List (TV E))) (v0 : List (List UInt8)) (v1 : Nat) (v2 : List (List UInt8)) : Option (List (TV E)) :=
  G 1 (rsorted_C1 v0 v1 (-1) 0 v2)
theorem rsorted_l0 (G : Nat → ASt E → Option (List (TV E))) (v0 : List (List UInt8)) (v1 : Nat) (v2 : List (List UInt8)) : runL rsorted_O rsorted_H G Tryz.f24 0 (rsorted_C0 v0 v1 v2) = rsorted_t0 G v0 v1 v2 := by kernel_rfl
noncomputable def rsorted_t1 (G : Nat → ASt E → Option (List (TV E))) (v0 : List (List UInt8)) (v1 : Nat) (v2 v3 : Int) (v4 : List (List UInt8)) : Option (List (TV E)) :=
  bif (decide (v3 < (v0.length : Int))) then (bif ((decide ((0 : Int) ≤ v3) && decide (v3 < (v0.length : Int))) || !(!(((v1 : Nat) : Int) == (0 : Int)))) then (bif ((decide ((0 : Int) ≤ (w64 (((v1 : Nat) : Int) - (1 : Int)))) && decide ((w64 (((v1 : Nat) : Int) - (1 : Int))) < (v1 : Nat))) || !(!(((v1 : Nat) : Int) == (0 : Int)))) then (bif ((decide ((0 : Int) ≤ v3) && decide (v3 < (v0.length : Int))) || !((bif (((v1 : Nat) : Int) == (0 : Int)) then true else (!(Op.bytesLess (List.getD v0 (Int.toNat v3) (dflt .str)) (List.getD v4 (Int.toNat (w64 (((v1 : Nat) : Int) - (1 : Int)))) (dflt .str)) || (List.getD v0 (Int.toNat v3) (dflt .str)) == (List.getD v4 (Int.toNat (w64 (((v1 : Nat) : Int) - (1 : Int)))) (dflt .str))))) && (!(decide (v2 < (0 : Int)))))) then (bif ((decide ((0 : Int) ≤ v2) && decide (v2 < (v0.length : Int))) || !((bif (((v1 : Nat) : Int) == (0 : Int)) then true else (!(Op.bytesLess (List.getD v0 (Int.toNat v3) (dflt .str)) (List.getD v4 (Int.toNat (w64 (((v1 : Nat) : Int) - (1 : Int)))) (dflt .str)) || (List.getD v0 (Int.toNat v3) (dflt .str)) == (List.getD v4 (Int.toNat (w64 (((v1 : Nat) : Int) - (1 : Int)))) (dflt .str))))) && (!(decide (v2 < (0 : Int)))))) then (bif (bif (bif (((v1 : Nat) : Int) == (0 : Int)) then true else (!(Op.bytesLess (List.getD v0 (Int.toNat v3) (dflt .str)) (List.getD v4 (Int.toNat (w64 (((v1 : Nat) : Int) - (1 : Int)))) (dflt .str)) || (List.getD v0 (Int.toNat v3) (dflt .str)) == (List.getD v4 (Int.toNat (w64 (((v1 : Nat) : Int) - (1 : Int)))) (dflt .str))))) then (bif (decide (v2 < (0 : Int))) then true else (Op.bytesLess (List.getD v0 (Int.toNat v3) (dflt .str)) (List.getD v0 (Int.toNat v2) (dflt .str)))) else false) then G 1 (rsorted_C1 v0 v1 v3 (w64 (v3 + (1 : Int))) v4) else G 1 (rsorted_C1 v0 v1 v2 (w64 (v3 + (1 : Int))) v4)) else none) else none) else none) else none) else (bif (decide (v2 < (0 : Int))) then some [⟨.l_str, v4⟩] else (bif (decide ((0 : Int) ≤ v2) && decide (v2 < (v0.length : Int))) then (bif (decide ((v4.length + ([(List.getD v0 (Int.toNat v2) (dflt .str))] : List (List UInt8)).length) * 16 ≤ maxBytes)) then G 0 (rsorted_C0 v0 (v4.length + ([(List.getD v0 (Int.toNat v2) (dflt .str))] : List (List UInt8)).length) (v4 ++ ([(List.getD v0 (Int.toNat v2) (dflt .str))] : List (List UInt8)))) else none) else none))
theorem rsorted_l1 (G : Nat → ASt E → Option (List (TV E))) (v0 : List (List UInt8)) (v1 : Nat) (v2 v3 : Int) (v4 : List (List UInt8)) : runL rsorted_O rsorted_H G Tryz.f24 1 (rsorted_C1 v0 v1 v2 v3 v4) = rsorted_t1 G v0 v1 v2 v3 v4 := by kernel_rfl
theorem rsorted_f : Tryz.prog.funcs[24]? = some Tryz.f24 := by kernel_rfl
theorem rsorted_n : (Tryz.f24.name == "runtime.NumGoroutine") = false := by kernel_rfl
theorem rsorted_b : Tryz.f24.body.isNone = false := by kernel_rfl
theorem rsorted_hO : OracleOk E rsorted_O := orac_ok .nil .nil .nil .nil
theorem rsorted_s0 {res : List (TV E)} {v0 : List (List UInt8)} {v1 : Nat} {v2 : List (List UInt8)} (h : rsorted_t0 (Gr E Tryz.f24 res) v0 v1 v2 = some res) : Ev E Tryz.f24 res 0 (rsorted_C0 v0 v1 v2) := Ev.step rsorted_hO mix ((rsorted_l0 _ v0 v1 v2).trans h)
theorem rsorted_s1 {res : List (TV E)} {v0 : List (List UInt8)} {v1 : Nat} {v2 v3 : Int} {v4 : List (List UInt8)} (h : rsorted_t1 (Gr E Tryz.f24 res) v0 v1 v2 v3 v4 = some res) : Ev E Tryz.f24 res 1 (rsorted_C1 v0 v1 v2 v3 v4) := Ev.step rsorted_hO mix ((rsorted_l1 _ v0 v1 v2 v3 v4).trans h)
theorem rsorted_ok_of (h : ∀ (x0 : List (List UInt8)), ln6 x0 = true → rsorted_t (Gr E Tryz.f24 [⟨.l_str, Pl.sortD x0⟩]) x0 = some [⟨.l_str, Pl.sortD x0⟩]) : FnOk E rsorted_id rsorted_W := fn1_ok rsorted_hO mix rsorted_f rsorted_n rsorted_b (fun x0 hk => (rsorted_e _ x0).trans (h x0 hk))
theorem rsorted_1 (l out : List (List UInt8)) (hl : l.length ≤ 1000000) (hp : Pre l out) (hn : out.length + lack l out ≤ l.length)
    (ih : ∀ z, Pre l (out ++ [z]) → (out ++ [z]).length + lack l (out ++ [z]) ≤ l.length → lack l (out ++ [z]) < lack l out → Ev E Tryz.f24 [⟨.l_str, Pl.sortD l⟩] 0 (rsorted_C0 l (out ++ [z]).length (out ++ [z]))) :
    ∀ (m i : Nat) (b : Int), l.length - i = m → i ≤ l.length → Best l out i b → Ev E Tryz.f24 [⟨.l_str, Pl.sortD l⟩] 1 (rsorted_C1 l out.length b i out) := by
  have ho : out.length ≤ 1000000 := by omega
  intro m
  induction m with
  | zero =>
    intro i b h1 h2 hb
    have e : i = l.length := by omega
    subst e
    refine rsorted_s1 ?_
    simp only [rsorted_t1, dge (Nat.le_refl l.length), cond_false]
    rcases hb with ⟨rfl, hb⟩ | ⟨j, z, hj, rfl, hz, hzo, hmin⟩
    · rw [dT (by decide), cond_true, Pl.sortD_eq hp.ss fun x => ⟨hp.sub x, fun hx => ?_⟩]
      obtain ⟨k, hk, rfl⟩ := List.mem_iff_getElem.1 hx
      exact hb k _ hk (List.getElem?_eq_getElem hk)
    · have hzl : l[j] = z := by rw [List.getElem?_eq_getElem hj] at hz; exact Option.some.inj hz
      rw [dF (by omega), cond_false, d0, dlt hj, gd l _ j hj, hzl]
      simp only [Bool.and_self, cond_true]
      rw [dT (show (out.length + [z].length) * 16 ≤ maxBytes by rw [mb, List.length_singleton]; omega), cond_true]
      have hmem : z ∈ l := by rw [← hzl]; exact List.getElem_mem hj
      have hlk := (lack_step out z hzo l).2 hmem
      have hpre : Pre l (out ++ [z]) := {
        ss := by
          unfold Pl.SS
          rw [List.pairwise_append]
          exact ⟨hp.ss, List.pairwise_singleton _ _, fun x hx y hy => by
            have : y = z := by simpa using hy
            subst this
            exact hp.low y hmem hzo x hx⟩
        sub := fun x hx => by
          rcases List.mem_append.1 hx with hx | hx
          · exact hp.sub x hx
          · have : x = z := by simpa using hx
            subst this; exact hmem
        low := fun y hy hyo x hx => by
          have hyo' : y ∉ out := fun h => hyo (List.mem_append_left _ h)
          have hyz : y ≠ z := fun h => hyo (by rw [h]; simp)
          rcases List.mem_append.1 hx with hx | hx
          · exact hp.low y hy hyo' x hx
          · have : x = z := by simpa using hx
            subst this
            obtain ⟨k, hk, rfl⟩ := List.mem_iff_getElem.1 hy
            exact Pl.s_lt_of_le_ne (hmin k _ hk (List.getElem?_eq_getElem hk) hyo') (fun h => hyz h.symm) }
      have := Gr_of (ih z hpre (by rw [List.length_append, List.length_singleton]; omega) (by omega))
      rw [List.length_append] at this
      exact this
  | succ m ihm =>
    intro i b h1 h2 hb
    have hi : i < l.length := by omega
    have hgi := List.getElem?_eq_getElem hi
    refine rsorted_s1 ?_
    have hlast := hp.last (List.getElem_mem hi)
    have e3 : w64 ((i : Int) + 1) = ((i + 1 : Nat) : Int) := by rw [w64_id (by omega) (by omega)]; omega
    simp only [rsorted_t1, dlt hi, d0, gd l _ i hi, cExpr out _ ho, okLast out ho, e3, Bool.and_self, Bool.true_or, cond_true]
    cases hc : lastLt out l[i] with
    | false =>
      have hin : l[i] ∈ out := Decidable.byContradiction fun h => by rw [hlast.2 h] at hc; cases hc
      simp only [Bool.false_and, Bool.not_false, Bool.or_true, cond_true, cond_false]
      refine Gr_of (ihm (i + 1) b (by omega) (by omega) ?_)
      rcases hb with ⟨rfl, hb⟩ | ⟨j, z, hj, rfl, hz, hzo, hmin⟩
      · refine .inl ⟨rfl, fun k x hk hx => ?_⟩
        by_cases hki : k = i
        · subst hki; rw [hgi] at hx; cases hx; exact hin
        · exact hb k x (by omega) hx
      · refine .inr ⟨j, z, by omega, rfl, hz, hzo, fun k x hk hx hxo => ?_⟩
        by_cases hki : k = i
        · subst hki; rw [hgi] at hx; cases hx; exact absurd hin hxo
        · exact hmin k x (by omega) hx hxo
    | true =>
      have hno : l[i] ∉ out := hlast.1 hc
      rcases hb with ⟨rfl, hb⟩ | ⟨j, z, hj, rfl, hz, hzo, hmin⟩
      · have hd : decide ((-1 : Int) < 0) = true := by decide
        simp only [hd, Bool.not_true, Bool.and_false, Bool.not_false, Bool.or_true, cond_true]
        refine Gr_of (ihm (i + 1) (i : Int) (by omega) (by omega) (.inr ⟨i, l[i], by omega, rfl, hgi, hno, fun k x hk hx hxo => ?_⟩))
        by_cases hki : k = i
        · subst hki; rw [hgi] at hx; cases hx; exact Pl.s_le_iff.2 (Pl.s_irrefl _)
        · exact absurd (hb k x (by omega) hx) hxo
      · have hjl : j < l.length := by omega
        have hzl : l[j] = z := by rw [List.getElem?_eq_getElem hjl] at hz; exact Option.some.inj hz
        have hd : decide ((j : Int) < 0) = false := dF (by omega)
        simp only [hd, d0, dlt hjl, gd l _ j hjl, hzl, Bool.not_false, Bool.and_self, Bool.true_or, cond_true, cond_false, Go.Proofs.bytesLess_eq]
        by_cases hlt : l[i] < z
        · rw [dT hlt, cond_true]
          refine Gr_of (ihm (i + 1) (i : Int) (by omega) (by omega) (.inr ⟨i, l[i], by omega, rfl, hgi, hno, fun k x hk hx hxo => ?_⟩))
          by_cases hki : k = i
          · subst hki; rw [hgi] at hx; cases hx; exact Pl.s_le_iff.2 (Pl.s_irrefl _)
          · exact Pl.s_le_trans (Pl.s_le_iff.2 (Pl.s_asymm hlt)) (hmin k x (by omega) hx hxo)
        · rw [dF hlt, cond_false]
          refine Gr_of (ihm (i + 1) (j : Int) (by omega) (by omega) (.inr ⟨j, z, by omega, rfl, hz, hzo, fun k x hk hx hxo => ?_⟩))
          by_cases hki : k = i
          · subst hki; rw [hgi] at hx; cases hx; exact Pl.s_le_iff.2 hlt
          · exact hmin k x (by omega) hx hxo
theorem rsorted_0 (l : List (List UInt8)) (hl : l.length ≤ 1000000) : ∀ (m : Nat) (out : List (List UInt8)), lack l out = m → Pre l out → out.length + lack l out ≤ l.length → Ev E Tryz.f24 [⟨.l_str, Pl.sortD l⟩] 0 (rsorted_C0 l out.length out) := by
  intro m
  induction m using Nat.strongRecOn with
  | ind m ih =>
    intro out hm hp hn
    refine rsorted_s0 ?_
    simp only [rsorted_t0]
    exact Gr_of (rsorted_1 l out hl hp hn (fun z h1 h2 h3 => ih (lack l (out ++ [z])) (by omega) (out ++ [z]) rfl h1 h2) l.length 0 (-1) (by omega) (by omega) (.inl ⟨rfl, fun k x hk => by omega⟩))
theorem rsorted_ok : FnOk E rsorted_id rsorted_W := rsorted_ok_of fun l hk => by
  have hl := ln6_iff.1 hk
  have hlack : lack l [] ≤ l.length := List.countP_le_length
  exact Gr_of (rsorted_0 l hl _ [] rfl ⟨List.Pairwise.nil, fun x h => (by cases h), fun y _ _ x h => (by cases h)⟩ (by rw [List.length_nil]; omega))
noncomputable def rsame_W : FnW E := fn2 (E := E) .l_str .l_str .bool (fun a _ => ln6 a) equal
def rsame_id : FuncId := 23
noncomputable def rsame_O : Oracle E := orac [] [] [] []
noncomputable def rsame_H : Hint E := { live := [(0, [0, 1, 5])] }
noncomputable def rsame_C0 (v0 : List (List UInt8)) (v1 : List (List UInt8)) (v2 : Int) : ASt E := ASt.mk 26 [(0, .d (.slice .str v0)), (1, .d (.slice .str v1)), (5, .d (.int .i64 v2))] [] 0
noncomputable def rsame_t (G : Nat → ASt E → Option (List (TV E))) (x0 : List (List UInt8)) (x1 : List (List UInt8)) : Option (List (TV E)) :=
  bif ((x0.length : Int) != (x1.length : Int)) then some [⟨.bool, false⟩] else G 0 (rsame_C0 x0 x1 0)
theorem rsame_e (G : Nat → ASt E → Option (List (TV E))) (x0 : List (List UInt8)) (x1 : List (List UInt8)) : runE rsame_O rsame_H G Tryz.f23 [⟨.l_str, x0⟩, ⟨.l_str, x1⟩] = rsame_t G x0 x1 := by kernel_rfl
noncomputable def rsame_t0 (G : Nat → ASt E → Option (List (TV E))) (v0 : List (List UInt8)) (v1 : List (List UInt8)) (v2 : Int) : Option (List (TV E)) :=
  bif (decide (v2 < (v0.length : Int))) then (bif (decide ((0 : Int) ≤ v2) && decide (v2 < (v0.length : Int))) then (bif (decide ((0 : Int) ≤ v2) && decide (v2 < (v1.length : Int))) then (bif (!((List.getD v0 (Int.toNat v2) (dflt .str)) == (List.getD v1 (Int.toNat v2) (dflt .str)))) then some [⟨.bool, false⟩] else G 0 (rsame_C0 v0 v1 (w64 (v2 + (1 : Int))))) else none) else none) else some [⟨.bool, true⟩]
theorem rsame_l0 (G : Nat → ASt E → Option (List (TV E))) (v0 : List (List UInt8)) (v1 : List (List UInt8)) (v2 : Int) : runL rsame_O rsame_H G Tryz.f23 0 (rsame_C0 v0 v1 v2) = rsame_t0 G v0 v1 v2 := by kernel_rfl
theorem rsame_f : Tryz.prog.funcs[23]? = some Tryz.f23 := by kernel_rfl
theorem rsame_n : (Tryz.f23.name == "runtime.NumGoroutine") = false := by kernel_rfl
theorem rsame_b : Tryz.f23.body.isNone = false := by kernel_rfl
theorem rsame_hO : OracleOk E rsame_O := orac_ok .nil .nil .nil .nil
theorem rsame_s0 {res : List (TV E)} {v0 : List (List UInt8)} {v1 : List (List UInt8)} {v2 : Int} (h : rsame_t0 (Gr E Tryz.f23 res) v0 v1 v2 = some res) : Ev E Tryz.f23 res 0 (rsame_C0 v0 v1 v2) := Ev.step rsame_hO mix ((rsame_l0 _ v0 v1 v2).trans h)
theorem rsame_ok_of (h : ∀ (x0 : List (List UInt8)) (x1 : List (List UInt8)), (fun a _ => ln6 a) x0 x1 = true → rsame_t (Gr E Tryz.f23 [⟨.bool, equal x0 x1⟩]) x0 x1 = some [⟨.bool, equal x0 x1⟩]) : FnOk E rsame_id rsame_W := fn2_ok rsame_hO mix rsame_f rsame_n rsame_b (fun x0 x1 hk => (rsame_e _ x0 x1).trans (h x0 x1 hk))
theorem rsame_loop (a b : List (List UInt8)) (ha : a.length ≤ 1000000) (hab : a.length = b.length) : ∀ (m i : Nat), a.length - i = m → i ≤ a.length → Ev E Tryz.f23 [⟨.bool, a.drop i == b.drop i⟩] 0 (rsame_C0 a b i) := by
  intro m
  induction m with
  | zero =>
    intro i h1 h2
    refine rsame_s0 ?_
    simp only [rsame_t0, dge (show a.length ≤ i by omega), cond_false, List.drop_eq_nil_of_le (show a.length ≤ i by omega), List.drop_eq_nil_of_le (show b.length ≤ i by omega)]
    rfl
  | succ m ih =>
    intro i h1 h2
    have hi : i < a.length := by omega
    have hj : i < b.length := by omega
    refine rsame_s0 ?_
    simp only [rsame_t0, dlt hi, dlt hj, d0, gd a _ i hi, gd b _ i hj, Bool.and_self, cond_true]
    rw [← List.getElem_cons_drop hi, ← List.getElem_cons_drop hj, w64_id (by omega) (by omega)]
    by_cases hs : a[i] = b[i]
    · have e : (a[i] :: a.drop (i + 1) == b[i] :: b.drop (i + 1)) = (a.drop (i + 1) == b.drop (i + 1)) := by rw [List.cons_beq_cons]; simp [hs]
      rw [e, show (a[i] == b[i]) = true from by simpa using hs]
      exact Gr_of (ih (i + 1) (by omega) (by omega))
    · have e : (a[i] :: a.drop (i + 1) == b[i] :: b.drop (i + 1)) = false := by rw [List.cons_beq_cons]; simp [hs]
      rw [e, show (a[i] == b[i]) = false from by simpa using hs]
      rfl
theorem rsame_ok : FnOk E rsame_id rsame_W := rsame_ok_of fun a b hk => by
  simp only [rsame_t]
  by_cases h : a.length = b.length
  · rw [neF (by omega), cond_false]
    have := rsame_loop a b (ln6_iff.1 hk) h a.length 0 (by omega) (by omega)
    rw [List.drop_zero, List.drop_zero] at this
    exact Gr_of this
  · rw [neT (by omega), cond_true]
    have : equal a b = false := by simp only [equal, beq_eq_false_iff_ne]; exact fun e => h (by rw [e])
    rw [this]
noncomputable def rnsame_W (n : Nat) : FnW E := fn2 (E := E) .api_Node .api_Node .bool (okS n) (same n)
def rnsame_id : FuncId := 10
noncomputable def rnsame_O (n : Nat) : Oracle E := orac [(23, rsame_W), (10, rnsame_W n)] [] [] []
noncomputable def rnsame_H : Hint E := { live := [(0, [2, 3, 5])] }
noncomputable def rnsame_C0 (v0 v1 : Int) (v2 : List UInt8) (v3 : List (List UInt8)) (v4 : List Node) (v5 : Int) (v6 : List UInt8) (v7 : List (List UInt8)) (v8 : List Node) : ASt E := ASt.mk 54 [(2, .ptr 0 0), (3, .ptr 1 0), (5, .d (.int .i64 v0))] [(0, .box [.d (.int .i64 v1), .d (.str v2), .d (.slice .str v3), .d (.slice .api_Node v4)]), (1, .box [.d (.int .i64 v5), .d (.str v6), .d (.slice .str v7), .d (.slice .api_Node v8)])] 2
noncomputable def rnsame_t (_n : Nat) (G : Nat → ASt E → Option (List (TV E))) (x0 x1 : Node) : Option (List (TV E)) :=
  bif (((fun a _ => ln6 a) x0.keys x1.keys) || !(!(bif (x0.kind != x1.kind) then true else (!(x0.text == x1.text))))) then (bif (bif (bif (bif (x0.kind != x1.kind) then true else (!(x0.text == x1.text))) then true else (!(equal x0.keys x1.keys))) then true else ((x0.kids.length : Int) != (x1.kids.length : Int))) then some [⟨.bool, false⟩] else G 0 (rnsame_C0 0 x0.kind x0.text x0.keys x0.kids x1.kind x1.text x1.keys x1.kids)) else none
theorem rnsame_e (n : Nat) (G : Nat → ASt E → Option (List (TV E))) (x0 : Node) (x1 : Node) : runE (rnsame_O n) rnsame_H G Tryz.f10 [⟨.api_Node, x0⟩, ⟨.api_Node, x1⟩] = rnsame_t n G x0 x1 := by kernel_rfl
noncomputable def rnsame_t0 (n : Nat) (G : Nat → ASt E → Option (List (TV E))) (v0 v1 : Int) (v2 : List UInt8) (v3 : List (List UInt8)) (v4 : List Node) (v5 : Int) (v6 : List UInt8) (v7 : List (List UInt8)) (v8 : List Node) : Option (List (TV E)) :=
  bif (decide (v0 < (v4.length : Int))) then (bif (decide ((0 : Int) ≤ v0) && decide (v0 < (v4.length : Int))) then (bif (decide ((0 : Int) ≤ v0) && decide (v0 < (v8.length : Int))) then (bif ((okS n) (⟨(List.getD v4 (Int.toNat v0) (dflt .api_Node)).kind, (List.getD v4 (Int.toNat v0) (dflt .api_Node)).text, (List.getD v4 (Int.toNat v0) (dflt .api_Node)).keys, (List.getD v4 (Int.toNat v0) (dflt .api_Node)).kids⟩ : Node) (⟨(List.getD v8 (Int.toNat v0) (dflt .api_Node)).kind, (List.getD v8 (Int.toNat v0) (dflt .api_Node)).text, (List.getD v8 (Int.toNat v0) (dflt .api_Node)).keys, (List.getD v8 (Int.toNat v0) (dflt .api_Node)).kids⟩ : Node)) then (bif (!((same n) (⟨(List.getD v4 (Int.toNat v0) (dflt .api_Node)).kind, (List.getD v4 (Int.toNat v0) (dflt .api_Node)).text, (List.getD v4 (Int.toNat v0) (dflt .api_Node)).keys, (List.getD v4 (Int.toNat v0) (dflt .api_Node)).kids⟩ : Node) (⟨(List.getD v8 (Int.toNat v0) (dflt .api_Node)).kind, (List.getD v8 (Int.toNat v0) (dflt .api_Node)).text, (List.getD v8 (Int.toNat v0) (dflt .api_Node)).keys, (List.getD v8 (Int.toNat v0) (dflt .api_Node)).kids⟩ : Node))) then some [⟨.bool, false⟩] else G 0 (rnsame_C0 (w64 (v0 + (1 : Int))) v1 v2 v3 v4 v5 v6 v7 v8)) else none) else none) else none) else some [⟨.bool, true⟩]
theorem rnsame_l0 (n : Nat) (G : Nat → ASt E → Option (List (TV E))) (v0 v1 : Int) (v2 : List UInt8) (v3 : List (List UInt8)) (v4 : List Node) (v5 : Int) (v6 : List UInt8) (v7 : List (List UInt8)) (v8 : List Node) : runL (rnsame_O n) rnsame_H G Tryz.f10 0 (rnsame_C0 v0 v1 v2 v3 v4 v5 v6 v7 v8) = rnsame_t0 n G v0 v1 v2 v3 v4 v5 v6 v7 v8 := by kernel_rfl
theorem rnsame_f : Tryz.prog.funcs[10]? = some Tryz.f10 := by kernel_rfl
theorem rnsame_n : (Tryz.f10.name == "runtime.NumGoroutine") = false := by kernel_rfl
theorem rnsame_b : Tryz.f10.body.isNone = false := by kernel_rfl
theorem rnsame_ex : ∃ fn, Tryz.prog.funcs[10]? = some fn ∧ (fn.name == "runtime.NumGoroutine") = false ∧ fn.body.isNone = false := ⟨Tryz.f10, rnsame_f, rnsame_n, rnsame_b⟩
theorem rnsame_hO (n : Nat) (ih : FnOk E rnsame_id (rnsame_W n)) : OracleOk E (rnsame_O n) := orac_ok (.cons rsame_ok (.cons ih .nil)) .nil .nil .nil
theorem rnsame_s0 (n : Nat) (ih : FnOk E rnsame_id (rnsame_W n)) {res : List (TV E)} {v0 v1 : Int} {v2 : List UInt8} {v3 : List (List UInt8)} {v4 : List Node} {v5 : Int} {v6 : List UInt8} {v7 : List (List UInt8)} {v8 : List Node} (h : rnsame_t0 n (Gr E Tryz.f10 res) v0 v1 v2 v3 v4 v5 v6 v7 v8 = some res) : Ev E Tryz.f10 res 0 (rnsame_C0 v0 v1 v2 v3 v4 v5 v6 v7 v8) := Ev.step (rnsame_hO n ih) mix ((rnsame_l0 n _ v0 v1 v2 v3 v4 v5 v6 v7 v8).trans h)
theorem rnsame_ok_of (n : Nat) (ih : FnOk E rnsame_id (rnsame_W n)) (h : ∀ (x0 : Node) (x1 : Node), (okS (n + 1)) x0 x1 = true → rnsame_t n (Gr E Tryz.f10 [⟨.bool, (same (n + 1)) x0 x1⟩]) x0 x1 = some [⟨.bool, (same (n + 1)) x0 x1⟩]) : FnOk E rnsame_id (rnsame_W (n + 1)) := fn2_ok (rnsame_hO n ih) mix rnsame_f rnsame_n rnsame_b (fun x0 x1 hk => (rnsame_e n _ x0 x1).trans (h x0 x1 hk))
theorem rnsame_loop (n : Nat) (ih : FnOk E rnsame_id (rnsame_W n)) (x y : Node) (ha : x.kids.length ≤ 1000000) (hab : x.kids.length = y.kids.length) (hda : ∀ z ∈ x.kids, dp n z = true) (hdb : ∀ z ∈ y.kids, dp n z = true) : ∀ (m i : Nat), x.kids.length - i = m → i ≤ x.kids.length →
    Ev E Tryz.f10 [⟨.bool, sameW (same n) (x.kids.drop i) (y.kids.drop i)⟩] 0 (rnsame_C0 i x.kind x.text x.keys x.kids y.kind y.text y.keys y.kids) := by
  intro m
  induction m with
  | zero =>
    intro i h1 h2
    refine rnsame_s0 n ih ?_
    simp only [rnsame_t0, dge (show x.kids.length ≤ i by omega), cond_false, List.drop_eq_nil_of_le (show x.kids.length ≤ i by omega), List.drop_eq_nil_of_le (show y.kids.length ≤ i by omega)]
    rfl
  | succ m ih2 =>
    intro i h1 h2
    have hi : i < x.kids.length := by omega
    have hj : i < y.kids.length := by omega
    have hok : okS n x.kids[i] y.kids[i] = true := by simp only [okS, hda _ (List.getElem_mem hi), hdb _ (List.getElem_mem hj), Bool.and_self]
    refine rnsame_s0 n ih ?_
    simp only [rnsame_t0, dlt hi, dlt hj, d0, gd x.kids _ i hi, gd y.kids _ i hj, Bool.and_self, cond_true, node_eta, hok]
    rw [← List.getElem_cons_drop hi, ← List.getElem_cons_drop hj, w64_id (by omega) (by omega)]
    simp only [sameW]
    cases same n x.kids[i] y.kids[i] with
    | false => rfl
    | true =>
      simp only [Bool.not_true, cond_false, Bool.true_and]
      exact Gr_of (ih2 (i + 1) (by omega) (by omega))
theorem rnsame_ok (n : Nat) : FnOk E rnsame_id (rnsame_W n) := by
  induction n with
  | zero => exact fn2_bot rnsame_ex fun x y => rfl
  | succ n ih =>
    refine rnsame_ok_of n ih fun a b hk => ?_
    simp only [okS, Bool.and_eq_true] at hk
    obtain ⟨ha, ha2⟩ := dp_iff.1 hk.1
    obtain ⟨hb, hb2⟩ := dp_iff.1 hk.2
    have hl : ln6 a.keys = true := ln6_iff.2 ha.1
    simp only [rnsame_t, hl, Bool.true_or, cond_true, same, equal]
    by_cases h1 : a.kind = b.kind
    · rw [neF h1, eqT h1]
      cases a.text == b.text with
      | false => rfl
      | true =>
        cases a.keys == b.keys with
        | false => rfl
        | true =>
          simp only [Bool.not_true, cond_false, Bool.true_and]
          by_cases hlen : a.kids.length = b.kids.length
          · rw [neF (by omega), cond_false]
            have := Gr_of (rnsame_loop n ih a b ha.2 hlen ha2 hb2 a.kids.length 0 (by omega) (by omega))
            rw [List.drop_zero, List.drop_zero] at this
            exact this
          · rw [neT (by omega), cond_true, sameW_len hlen]
    · rw [neT h1, eqF h1]
      rfl
def kidsV (g : Node → Int → Int) : List Node → Int → Int
  | [], l => l
  | k :: t, l => bif decide (g k l < 0) then -1 else kidsV g t (g k l)
def badA (x : Node) (deep l : Int) : Bool := bif (bif (bif decide (l < 0) then true else decide (12 < deep)) then true else decide (x.kind < 0)) then true else decide (3 < x.kind)
def badB (x : Node) : Bool := bif (bif (bif x.kind != 1 then decide ((0 : Int) < (x.text.length : Int)) else false) then true else (bif x.kind != 3 then decide ((0 : Int) < (x.keys.length : Int)) else false)) then true else (bif decide (x.kind < 2) then decide ((0 : Int) < (x.kids.length : Int)) else false)
def badC (x : Node) (l : Int) : Bool := bif x.kind == 3 then (bif (bif (x.keys.length : Int) != (x.kids.length : Int) then true else decide (l < (x.kids.length : Int))) then true else ((Pl.sortD x.keys).length : Int) != (x.keys.length : Int)) else false
def leftV : Nat → Node → Int → Int → Int
  | 0, _, _, _ => -1
  | n + 1, x, deep, left => bif badA x deep (left - 1) then -1 else bif badB x then -1 else bif badC x (left - 1) then -1 else kidsV (fun k l => leftV n k (deep + 1) l) x.kids (left - 1)
theorem kidsV_le {g : Node → Int → Int} (hg : ∀ k l, 0 ≤ g k l → g k l + 1 ≤ l) : ∀ (ks : List Node) (l : Int), 0 ≤ kidsV g ks l → kidsV g ks l + ks.length ≤ l ∧ ∀ k ∈ ks, ∃ l', 0 ≤ g k l' ∧ l' ≤ l
  | [], l, _ => ⟨by simp [kidsV], fun k hk => by cases hk⟩
  | k :: t, l, h => by
    unfold kidsV at h ⊢
    by_cases hk : g k l < 0
    · rw [dT hk, cond_true] at h
      omega
    · rw [dF hk, cond_false] at h ⊢
      obtain ⟨h1, h2⟩ := kidsV_le hg t (g k l) h
      have h3 := hg k l (by omega)
      refine ⟨by rw [List.length_cons]; omega, fun y hy => ?_⟩
      rcases List.mem_cons.1 hy with rfl | hy
      · exact ⟨l, by omega, Int.le_refl _⟩
      · obtain ⟨l', h4, h5⟩ := h2 y hy
        exact ⟨l', h4, by omega⟩
theorem leftV_le : ∀ (n : Nat) (x : Node) (d l : Int), 0 ≤ leftV n x d l → leftV n x d l + 1 ≤ l
  | 0, _, _, _, h => by simp [leftV] at h
  | n + 1, x, d, l, h => by
    unfold leftV at h ⊢
    cases h1 : badA x d (l - 1) with
    | true => rw [h1, cond_true] at h; omega
    | false =>
      cases h2 : badB x with
      | true => rw [h1, h2, cond_false, cond_true] at h; omega
      | false =>
        cases h3 : badC x (l - 1) with
        | true => rw [h1, h2, h3, cond_false, cond_false, cond_true] at h; omega
        | false =>
          rw [h1, h2, h3, cond_false, cond_false, cond_false] at h
          simp only [cond_false]
          have := (kidsV_le (fun k l h => leftV_le n k (d + 1) l h) x.kids (l - 1) h).1
          omega
def okL (n : Nat) (_ : Node) (deep left : Int) : Bool := decide (1 ≤ n) && decide (n ≤ 13) && decide (deep + n = 14) && decide (-10 ≤ left) && decide (left ≤ 100000)
theorem okL_iff {n : Nat} {x : Node} {d l : Int} : okL n x d l = true ↔ (((1 ≤ n ∧ n ≤ 13) ∧ d + n = 14) ∧ -10 ≤ l) ∧ l ≤ 100000 := by simp [okL]
noncomputable def left_W (n : Nat) : FnW E := fn3 (E := E) .api_Node .int .int .int (okL n) (leftV n)
def left_id : FuncId := 11
noncomputable def left_O (n : Nat) : Oracle E := orac [(24, rsorted_W), (11, left_W n)] [] [] []
noncomputable def left_H : Hint E := { live := [(0, [1, 2, 3, 7])] }
noncomputable def left_C0 (v0 v1 v2 v3 : Int) (v4 : List UInt8) (v5 : List (List UInt8)) (v6 : List Node) : ASt E := ASt.mk 105 [(1, .d (.int .i64 v0)), (2, .d (.int .i64 v1)), (3, .ptr 0 0), (7, .d (.int .i64 v2))] [(0, .box [.d (.int .i64 v3), .d (.str v4), .d (.slice .str v5), .d (.slice .api_Node v6)])] 1
noncomputable def left_t (_n : Nat) (G : Nat → ASt E → Option (List (TV E))) (x0 : Node) (x1 x2 : Int) : Option (List (TV E)) :=
  bif (bif (bif (bif (decide ((w64 (x2 - (1 : Int))) < (0 : Int))) then true else (decide ((12 : Int) < x1))) then true else (decide (x0.kind < (0 : Int)))) then true else (decide ((3 : Int) < x0.kind))) then some [⟨.int, (-1 : Int)⟩] else (bif (bif (bif (bif (x0.kind != (1 : Int)) then (decide ((0 : Int) < (x0.text.length : Int))) else false) then true else (bif (x0.kind != (3 : Int)) then (decide ((0 : Int) < (x0.keys.length : Int))) else false)) then true else (bif (decide (x0.kind < (2 : Int))) then (decide ((0 : Int) < (x0.kids.length : Int))) else false)) then some [⟨.int, (-1 : Int)⟩] else (bif ((ln6 x0.keys) || !((x0.kind == (3 : Int)) && (!(bif ((x0.keys.length : Int) != (x0.kids.length : Int)) then true else (decide ((w64 (x2 - (1 : Int))) < (x0.kids.length : Int))))))) then (bif (bif (x0.kind == (3 : Int)) then (bif (bif ((x0.keys.length : Int) != (x0.kids.length : Int)) then true else (decide ((w64 (x2 - (1 : Int))) < (x0.kids.length : Int)))) then true else (((Pl.sortD x0.keys).length : Int) != (x0.keys.length : Int))) else false) then some [⟨.int, (-1 : Int)⟩] else G 0 (left_C0 x1 (w64 (x2 - (1 : Int))) 0 x0.kind x0.text x0.keys x0.kids)) else none))
theorem left_e (n : Nat) (G : Nat → ASt E → Option (List (TV E))) (x0 : Node) (x1 : Int) (x2 : Int) : runE (left_O n) left_H G Tryz.f11 [⟨.api_Node, x0⟩, ⟨.int, x1⟩, ⟨.int, x2⟩] = left_t n G x0 x1 x2 := by kernel_rfl
noncomputable def left_t0 (n : Nat) (G : Nat → ASt E → Option (List (TV E))) (v0 v1 v2 v3 : Int) (v4 : List UInt8) (v5 : List (List UInt8)) (v6 : List Node) : Option (List (TV E)) :=
  bif (decide (v2 < (v6.length : Int))) then (bif (decide ((0 : Int) ≤ v2) && decide (v2 < (v6.length : Int))) then (bif ((okL n) (⟨(List.getD v6 (Int.toNat v2) (dflt .api_Node)).kind, (List.getD v6 (Int.toNat v2) (dflt .api_Node)).text, (List.getD v6 (Int.toNat v2) (dflt .api_Node)).keys, (List.getD v6 (Int.toNat v2) (dflt .api_Node)).kids⟩ : Node) (w64 (v0 + (1 : Int))) v1) then (bif (decide (((leftV n) (⟨(List.getD v6 (Int.toNat v2) (dflt .api_Node)).kind, (List.getD v6 (Int.toNat v2) (dflt .api_Node)).text, (List.getD v6 (Int.toNat v2) (dflt .api_Node)).keys, (List.getD v6 (Int.toNat v2) (dflt .api_Node)).kids⟩ : Node) (w64 (v0 + (1 : Int))) v1) < (0 : Int))) then some [⟨.int, (-1 : Int)⟩] else G 0 (left_C0 v0 ((leftV n) (⟨(List.getD v6 (Int.toNat v2) (dflt .api_Node)).kind, (List.getD v6 (Int.toNat v2) (dflt .api_Node)).text, (List.getD v6 (Int.toNat v2) (dflt .api_Node)).keys, (List.getD v6 (Int.toNat v2) (dflt .api_Node)).kids⟩ : Node) (w64 (v0 + (1 : Int))) v1) (w64 (v2 + (1 : Int))) v3 v4 v5 v6)) else none) else none) else some [⟨.int, v1⟩]
theorem left_l0 (n : Nat) (G : Nat → ASt E → Option (List (TV E))) (v0 v1 v2 v3 : Int) (v4 : List UInt8) (v5 : List (List UInt8)) (v6 : List Node) : runL (left_O n) left_H G Tryz.f11 0 (left_C0 v0 v1 v2 v3 v4 v5 v6) = left_t0 n G v0 v1 v2 v3 v4 v5 v6 := by kernel_rfl
theorem left_f : Tryz.prog.funcs[11]? = some Tryz.f11 := by kernel_rfl
theorem left_n : (Tryz.f11.name == "runtime.NumGoroutine") = false := by kernel_rfl
theorem left_b : Tryz.f11.body.isNone = false := by kernel_rfl
theorem left_ex : ∃ fn, Tryz.prog.funcs[11]? = some fn ∧ (fn.name == "runtime.NumGoroutine") = false ∧ fn.body.isNone = false := ⟨Tryz.f11, left_f, left_n, left_b⟩
theorem left_hO (n : Nat) (ih : FnOk E left_id (left_W n)) : OracleOk E (left_O n) := orac_ok (.cons rsorted_ok (.cons ih .nil)) .nil .nil .nil
theorem left_s0 (n : Nat) (ih : FnOk E left_id (left_W n)) {res : List (TV E)} {v0 v1 v2 v3 : Int} {v4 : List UInt8} {v5 : List (List UInt8)} {v6 : List Node} (h : left_t0 n (Gr E Tryz.f11 res) v0 v1 v2 v3 v4 v5 v6 = some res) : Ev E Tryz.f11 res 0 (left_C0 v0 v1 v2 v3 v4 v5 v6) := Ev.step (left_hO n ih) mix ((left_l0 n _ v0 v1 v2 v3 v4 v5 v6).trans h)
theorem left_ok_of (n : Nat) (ih : FnOk E left_id (left_W n)) (h : ∀ (x0 : Node) (x1 : Int) (x2 : Int), (okL (n + 1)) x0 x1 x2 = true → left_t n (Gr E Tryz.f11 [⟨.int, (leftV (n + 1)) x0 x1 x2⟩]) x0 x1 x2 = some [⟨.int, (leftV (n + 1)) x0 x1 x2⟩]) : FnOk E left_id (left_W (n + 1)) := fn3_ok (left_hO n ih) mix left_f left_n left_b (fun x0 x1 x2 hk => (left_e n _ x0 x1 x2).trans (h x0 x1 x2 hk))
theorem left_loop (n : Nat) (ih : FnOk E left_id (left_W n)) (x : Node) (d : Int) (hn1 : 1 ≤ n) (hn2 : n ≤ 12) (hd : d + 1 + n = 14) : ∀ (m i : Nat) (l : Int), x.kids.length - i = m → i ≤ x.kids.length → 0 ≤ l → l + i ≤ 100000 →
    Ev E Tryz.f11 [⟨.int, kidsV (fun k l => leftV n k (d + 1) l) (x.kids.drop i) l⟩] 0 (left_C0 d l i x.kind x.text x.keys x.kids) := by
  intro m
  induction m with
  | zero =>
    intro i l h1 h2 h3 h4
    refine left_s0 n ih ?_
    simp only [left_t0, dge (show x.kids.length ≤ i by omega), cond_false, List.drop_eq_nil_of_le (show x.kids.length ≤ i by omega)]
    rfl
  | succ m ih2 =>
    intro i l h1 h2 h3 h4
    have hi : i < x.kids.length := by omega
    have e1 : w64 (d + 1) = d + 1 := w64_id (by omega) (by omega)
    have e2 : okL n x.kids[i] (d + 1) l = true := okL_iff.2 ⟨⟨⟨⟨hn1, by omega⟩, by omega⟩, by omega⟩, by omega⟩
    have hle := leftV_le n x.kids[i] (d + 1) l
    refine left_s0 n ih ?_
    simp only [left_t0, dlt hi, d0, gd x.kids _ i hi, Bool.and_self, cond_true, node_eta, e1, e2]
    rw [← List.getElem_cons_drop hi]
    simp only [kidsV]
    by_cases hk : leftV n x.kids[i] (d + 1) l < 0
    · rw [dT hk]; rfl
    · rw [dF hk, cond_false, cond_false, w64_id (by omega) (by omega)]
      exact Gr_of (ih2 (i + 1) _ (by omega) (by omega) (by omega) (by have := hle (by omega); omega))
theorem left_ok (n : Nat) : FnOk E left_id (left_W n) := by
  induction n with
  | zero => exact fn3_bot left_ex fun x y z => by simp [okL]
  | succ n ih =>
    refine left_ok_of n ih fun x d l hk => ?_
    have hk := okL_iff.1 hk
    have e1 : w64 (l - 1) = l - 1 := w64_id (by omega) (by omega)
    simp only [left_t, e1, leftV]
    change (bif badA x d (l - 1) then _ else bif badB x then _ else _) = _
    cases h1 : badA x d (l - 1) with
    | true => rfl
    | false =>
      cases h2 : badB x with
      | true => rfl
      | false =>
        simp only [cond_false]
        have hA : ¬ l - 1 < 0 ∧ ¬ 12 < d := by
          unfold badA at h1
          by_cases a1 : l - 1 < 0
          · rw [dT a1] at h1; cases h1
          · by_cases a2 : 12 < d
            · rw [dF a1, dT a2] at h1; cases h1
            · exact ⟨a1, a2⟩
        have hcond : (ln6 x.keys || !(x.kind == 3 && !(bif (x.keys.length : Int) != (x.kids.length : Int) then true else decide (l - 1 < (x.kids.length : Int))))) = true := by
          by_cases a1 : (x.keys.length : Int) = x.kids.length
          · by_cases a2 : l - 1 < (x.kids.length : Int)
            · rw [neF a1, dT a2]; simp
            · rw [ln6_iff.2 (by omega)]; rfl
          · rw [neT a1]; simp
        rw [hcond, cond_true]
        change (bif badC x (l - 1) then _ else _) = _
        cases h3 : badC x (l - 1) with
        | true => rfl
        | false =>
          simp only [cond_false]
          have := Gr_of (left_loop n ih x d (by omega) (by omega) (by omega) x.kids.length 0 (l - 1) (by omega) (by omega) (by omega) (by omega))
          rw [List.drop_zero] at this
          exact this
def shortV : Nat → Node → Bool
  | 0, _ => false
  | n + 1, x => decide (x.text.length ≤ 200) && (x.keys.all (fun k => decide (k.length ≤ 200)) && x.kids.all (shortV n))
noncomputable def short_W (n : Nat) : FnW E := fn1 (E := E) .api_Node .bool (dp n) (shortV n)
def short_id : FuncId := 12
noncomputable def short_O (n : Nat) : Oracle E := orac [(12, short_W n)] [] [] []
noncomputable def short_H : Hint E := { live := [(0, [1, 3]), (1, [1, 4])] }
noncomputable def short_C0 (v0 v1 : Int) (v2 : List UInt8) (v3 : List (List UInt8)) (v4 : List Node) : ASt E := ASt.mk 37 [(1, .ptr 0 0), (3, .d (.int .i64 v0))] [(0, .box [.d (.int .i64 v1), .d (.str v2), .d (.slice .str v3), .d (.slice .api_Node v4)])] 1
noncomputable def short_C1 (v0 v1 : Int) (v2 : List UInt8) (v3 : List (List UInt8)) (v4 : List Node) : ASt E := ASt.mk 37 [(1, .ptr 0 0), (4, .d (.int .i64 v0))] [(0, .box [.d (.int .i64 v1), .d (.str v2), .d (.slice .str v3), .d (.slice .api_Node v4)])] 1
noncomputable def short_t (_n : Nat) (G : Nat → ASt E → Option (List (TV E))) (x0 : Node) : Option (List (TV E)) :=
  bif (decide ((200 : Int) < (x0.text.length : Int))) then some [⟨.bool, false⟩] else G 0 (short_C0 0 x0.kind x0.text x0.keys x0.kids)
theorem short_e (n : Nat) (G : Nat → ASt E → Option (List (TV E))) (x0 : Node) : runE (short_O n) short_H G Tryz.f12 [⟨.api_Node, x0⟩] = short_t n G x0 := by kernel_rfl
noncomputable def short_t0 (_n : Nat) (G : Nat → ASt E → Option (List (TV E))) (v0 v1 : Int) (v2 : List UInt8) (v3 : List (List UInt8)) (v4 : List Node) : Option (List (TV E)) :=
  bif (decide (v0 < (v3.length : Int))) then (bif (decide ((0 : Int) ≤ v0) && decide (v0 < (v3.length : Int))) then (bif (decide ((200 : Int) < ((List.getD v3 (Int.toNat v0) (dflt .str)).length : Int))) then some [⟨.bool, false⟩] else G 0 (short_C0 (w64 (v0 + (1 : Int))) v1 v2 v3 v4)) else none) else G 1 (short_C1 0 v1 v2 v3 v4)
theorem short_l0 (n : Nat) (G : Nat → ASt E → Option (List (TV E))) (v0 v1 : Int) (v2 : List UInt8) (v3 : List (List UInt8)) (v4 : List Node) : runL (short_O n) short_H G Tryz.f12 0 (short_C0 v0 v1 v2 v3 v4) = short_t0 n G v0 v1 v2 v3 v4 := by kernel_rfl
noncomputable def short_t1 (n : Nat) (G : Nat → ASt E → Option (List (TV E))) (v0 v1 : Int) (v2 : List UInt8) (v3 : List (List UInt8)) (v4 : List Node) : Option (List (TV E)) :=
  bif (decide (v0 < (v4.length : Int))) then (bif (decide ((0 : Int) ≤ v0) && decide (v0 < (v4.length : Int))) then (bif ((dp n) (⟨(List.getD v4 (Int.toNat v0) (dflt .api_Node)).kind, (List.getD v4 (Int.toNat v0) (dflt .api_Node)).text, (List.getD v4 (Int.toNat v0) (dflt .api_Node)).keys, (List.getD v4 (Int.toNat v0) (dflt .api_Node)).kids⟩ : Node)) then (bif (!((shortV n) (⟨(List.getD v4 (Int.toNat v0) (dflt .api_Node)).kind, (List.getD v4 (Int.toNat v0) (dflt .api_Node)).text, (List.getD v4 (Int.toNat v0) (dflt .api_Node)).keys, (List.getD v4 (Int.toNat v0) (dflt .api_Node)).kids⟩ : Node))) then some [⟨.bool, false⟩] else G 1 (short_C1 (w64 (v0 + (1 : Int))) v1 v2 v3 v4)) else none) else none) else some [⟨.bool, true⟩]
theorem short_l1 (n : Nat) (G : Nat → ASt E → Option (List (TV E))) (v0 v1 : Int) (v2 : List UInt8) (v3 : List (List UInt8)) (v4 : List Node) : runL (short_O n) short_H G Tryz.f12 1 (short_C1 v0 v1 v2 v3 v4) = short_t1 n G v0 v1 v2 v3 v4 := by kernel_rfl
theorem short_f : Tryz.prog.funcs[12]? = some Tryz.f12 := by kernel_rfl
theorem short_n : (Tryz.f12.name == "runtime.NumGoroutine") = false := by kernel_rfl
theorem short_b : Tryz.f12.body.isNone = false := by kernel_rfl
theorem short_ex : ∃ fn, Tryz.prog.funcs[12]? = some fn ∧ (fn.name == "runtime.NumGoroutine") = false ∧ fn.body.isNone = false := ⟨Tryz.f12, short_f, short_n, short_b⟩
theorem short_hO (n : Nat) (ih : FnOk E short_id (short_W n)) : OracleOk E (short_O n) := orac_ok (.cons ih .nil) .nil .nil .nil
theorem short_s0 (n : Nat) (ih : FnOk E short_id (short_W n)) {res : List (TV E)} {v0 v1 : Int} {v2 : List UInt8} {v3 : List (List UInt8)} {v4 : List Node} (h : short_t0 n (Gr E Tryz.f12 res) v0 v1 v2 v3 v4 = some res) : Ev E Tryz.f12 res 0 (short_C0 v0 v1 v2 v3 v4) := Ev.step (short_hO n ih) mix ((short_l0 n _ v0 v1 v2 v3 v4).trans h)
theorem short_s1 (n : Nat) (ih : FnOk E short_id (short_W n)) {res : List (TV E)} {v0 v1 : Int} {v2 : List UInt8} {v3 : List (List UInt8)} {v4 : List Node} (h : short_t1 n (Gr E Tryz.f12 res) v0 v1 v2 v3 v4 = some res) : Ev E Tryz.f12 res 1 (short_C1 v0 v1 v2 v3 v4) := Ev.step (short_hO n ih) mix ((short_l1 n _ v0 v1 v2 v3 v4).trans h)
theorem short_ok_of (n : Nat) (ih : FnOk E short_id (short_W n)) (h : ∀ (x0 : Node), (dp (n + 1)) x0 = true → short_t n (Gr E Tryz.f12 [⟨.bool, (shortV (n + 1)) x0⟩]) x0 = some [⟨.bool, (shortV (n + 1)) x0⟩]) : FnOk E short_id (short_W (n + 1)) := fn1_ok (short_hO n ih) mix short_f short_n short_b (fun x0 hk => (short_e n _ x0).trans (h x0 hk))
theorem d200 {n : Nat} (h : n ≤ 200) : decide ((200 : Int) < (n : Int)) = false := dF (by omega)
theorem d200' {n : Nat} (h : ¬ n ≤ 200) : decide ((200 : Int) < (n : Int)) = true := dT (by omega)
theorem short_1 (n : Nat) (ih : FnOk E short_id (short_W n)) (x : Node) (hl : x.kids.length ≤ 1000000) (hd : ∀ y ∈ x.kids, dp n y = true) : ∀ (m i : Nat), x.kids.length - i = m → i ≤ x.kids.length →
    Ev E Tryz.f12 [⟨.bool, (x.kids.drop i).all (shortV n)⟩] 1 (short_C1 i x.kind x.text x.keys x.kids) := by
  intro m
  induction m with
  | zero =>
    intro i h1 h2
    refine short_s1 n ih ?_
    simp only [short_t1, dge (show x.kids.length ≤ i by omega), cond_false, List.drop_eq_nil_of_le (show x.kids.length ≤ i by omega)]
    rfl
  | succ m ih2 =>
    intro i h1 h2
    have hi : i < x.kids.length := by omega
    refine short_s1 n ih ?_
    simp only [short_t1, dlt hi, d0, gd x.kids _ i hi, Bool.and_self, cond_true, node_eta, hd _ (List.getElem_mem hi)]
    rw [← List.getElem_cons_drop hi, w64_id (by omega) (by omega), List.all_cons]
    cases shortV n x.kids[i] with
    | false => rfl
    | true =>
      simp only [Bool.not_true, cond_false, Bool.true_and]
      exact Gr_of (ih2 (i + 1) (by omega) (by omega))
theorem short_0 (n : Nat) (ih : FnOk E short_id (short_W n)) (x : Node) (hk : x.keys.length ≤ 1000000) (hl : x.kids.length ≤ 1000000) (hd : ∀ y ∈ x.kids, dp n y = true) : ∀ (m i : Nat), x.keys.length - i = m → i ≤ x.keys.length →
    Ev E Tryz.f12 [⟨.bool, (x.keys.drop i).all (fun k => decide (k.length ≤ 200)) && x.kids.all (shortV n)⟩] 0 (short_C0 i x.kind x.text x.keys x.kids) := by
  intro m
  induction m with
  | zero =>
    intro i h1 h2
    refine short_s0 n ih ?_
    simp only [short_t0, dge (show x.keys.length ≤ i by omega), cond_false, List.drop_eq_nil_of_le (show x.keys.length ≤ i by omega)]
    have := Gr_of (short_1 n ih x hl hd x.kids.length 0 (by omega) (by omega))
    rw [List.drop_zero] at this
    exact this
  | succ m ih2 =>
    intro i h1 h2
    have hi : i < x.keys.length := by omega
    refine short_s0 n ih ?_
    simp only [short_t0, dlt hi, d0, gd x.keys _ i hi, Bool.and_self, cond_true]
    rw [← List.getElem_cons_drop hi, w64_id (by omega) (by omega), List.all_cons]
    by_cases h : x.keys[i].length ≤ 200
    · rw [d200 h, cond_false, dT h, Bool.true_and]
      exact Gr_of (ih2 (i + 1) (by omega) (by omega))
    · rw [d200' h, cond_true, dF h]; rfl
theorem short_ok (n : Nat) : FnOk E short_id (short_W n) := by
  induction n with
  | zero => exact fn1_bot short_ex fun x => rfl
  | succ n ih =>
    refine short_ok_of n ih fun x hk => ?_
    have hk := dp_iff.1 hk
    simp only [short_t, shortV]
    by_cases h : x.text.length ≤ 200
    · rw [d200 h, cond_false, dT h, Bool.true_and]
      have := Gr_of (short_0 n ih x hk.1.1 hk.1.2 hk.2 x.keys.length 0 (by omega) (by omega))
      rw [List.drop_zero] at this
      exact this
    · rw [d200' h, cond_true, dF h]; rfl
theorem left_wf : ∀ (n : Nat) (x : Node) (d l : Int), d + (n + 1 : Nat) = 14 → l ≤ 201 → 0 ≤ leftV (n + 1) x d l → dp n x = true ∧ (shortV n x = true → wf 200 n x = true)
  | n, x, d, l, hd, hl, h => by
    unfold leftV at h
    cases h1 : badA x d (l - 1) with
    | true => rw [h1, cond_true] at h; omega
    | false =>
      cases h2 : badB x with
      | true => rw [h1, h2, cond_false, cond_true] at h; omega
      | false =>
        cases h3 : badC x (l - 1) with
        | true => rw [h1, h2, h3, cond_false, cond_false, cond_true] at h; omega
        | false =>
          rw [h1, h2, h3, cond_false, cond_false, cond_false] at h
          have hA : ¬ 12 < d := by
            intro a2
            unfold badA at h1
            rw [dT a2] at h1
            cases hx : decide (l - 1 < 0) <;> rw [hx] at h1 <;> cases h1
          obtain ⟨m, rfl⟩ : ∃ m, n = m + 1 := ⟨n - 1, by omega⟩
          obtain ⟨q1, q2⟩ := kidsV_le (fun k l h => leftV_le (m + 1) k (d + 1) l h) x.kids (l - 1) h
          have hrec : ∀ y ∈ x.kids, dp m y = true ∧ (shortV m y = true → wf 200 m y = true) := fun y hy => by
            obtain ⟨l', h4, h5⟩ := q2 y hy
            exact left_wf m y (d + 1) l' (by omega) (by omega) h4
          have hkeys : (x.kind = 3 → x.keys.length = x.kids.length) ∧ (x.kind ≠ 3 → x.keys.length = 0) := by
            constructor
            · intro e
              unfold badC at h3
              rw [eqT e, cond_true] at h3
              by_cases a1 : (x.keys.length : Int) = x.kids.length
              · omega
              · rw [neT a1] at h3; cases h3
            · intro e
              unfold badB at h2
              rw [neT e, cond_true] at h2
              by_cases a1 : (0 : Int) < (x.keys.length : Int)
              · rw [dT a1] at h2
                cases hx : (bif x.kind != 1 then decide ((0 : Int) < (x.text.length : Int)) else false) <;> rw [hx] at h2 <;> cases h2
              · omega
          have hk : x.keys.length ≤ 200 := by
            by_cases e : x.kind = 3
            · have := hkeys.1 e; omega
            · have := hkeys.2 e; omega
          refine ⟨dp_iff.2 ⟨⟨by omega, by omega⟩, fun y hy => (hrec y hy).1⟩, fun hs => ?_⟩
          simp only [shortV, Bool.and_eq_true, decide_eq_true_eq, List.all_eq_true] at hs
          exact wf_iff.2 ⟨hk, by omega, hkeys.1, hs.1, hs.2.1, fun y hy => (hrec y hy).2 (hs.2.2 y hy)⟩
  termination_by n => n
def okSm (_ : Node) (m : Int) : Bool := decide (0 ≤ m) && decide (m ≤ 200)
def smallV (x : Node) (m : Int) : Bool := bif decide (0 ≤ leftV 13 x 1 m) then shortV 12 x else false
noncomputable def small_W : FnW E := fn2 (E := E) .api_Node .int .bool okSm smallV
def small_id : FuncId := 4
noncomputable def small_O : Oracle E := orac [(11, left_W 13), (12, short_W 12)] [] [] []
noncomputable def small_H : Hint E := {}
noncomputable def small_t (_G : Nat → ASt E → Option (List (TV E))) (x0 : Node) (x1 : Int) : Option (List (TV E)) :=
  bif ((okL 13) (⟨x0.kind, x0.text, x0.keys, x0.kids⟩ : Node) (1 : Int) x1) then (bif (((dp 12) (⟨x0.kind, x0.text, x0.keys, x0.kids⟩ : Node)) || !(decide ((0 : Int) ≤ ((leftV 13) (⟨x0.kind, x0.text, x0.keys, x0.kids⟩ : Node) (1 : Int) x1)))) then some [⟨.bool, (bif (decide ((0 : Int) ≤ ((leftV 13) (⟨x0.kind, x0.text, x0.keys, x0.kids⟩ : Node) (1 : Int) x1))) then ((shortV 12) (⟨x0.kind, x0.text, x0.keys, x0.kids⟩ : Node)) else false)⟩] else none) else none
theorem small_e (G : Nat → ASt E → Option (List (TV E))) (x0 : Node) (x1 : Int) : runE small_O small_H G Tryz.f4 [⟨.api_Node, x0⟩, ⟨.int, x1⟩] = small_t G x0 x1 := by kernel_rfl
theorem small_f : Tryz.prog.funcs[4]? = some Tryz.f4 := by kernel_rfl
theorem small_n : (Tryz.f4.name == "runtime.NumGoroutine") = false := by kernel_rfl
theorem small_b : Tryz.f4.body.isNone = false := by kernel_rfl
theorem small_hO : OracleOk E small_O := orac_ok (.cons (left_ok 13) (.cons (short_ok 12) .nil)) .nil .nil .nil
theorem small_ok_of (h : ∀ (x0 : Node) (x1 : Int), okSm x0 x1 = true → small_t (Gr E Tryz.f4 [⟨.bool, smallV x0 x1⟩]) x0 x1 = some [⟨.bool, smallV x0 x1⟩]) : FnOk E small_id small_W := fn2_ok small_hO mix small_f small_n small_b (fun x0 x1 hk => (small_e _ x0 x1).trans (h x0 x1 hk))
theorem small_ok : FnOk E small_id small_W := small_ok_of fun x m hk => by
  have hm : 0 ≤ m ∧ m ≤ 200 := by simpa [okSm] using hk
  have e1 : okL 13 x 1 m = true := okL_iff.2 ⟨⟨⟨by decide, by decide⟩, by omega⟩, by omega⟩
  have e2 : (dp 12 x || !(decide (0 ≤ leftV 13 x 1 m))) = true := by
    by_cases h : 0 ≤ leftV 13 x 1 m
    · rw [(left_wf 12 x 1 m (by decide) (by omega) h).1]; rfl
    · rw [dF h]; simp
  simp only [small_t, node_eta, e1, e2, cond_true]
  rfl
theorem small_wf {x : Node} {m : Int} (hm : m ≤ 200) (h : smallV x m = true) : wf 200 12 x = true := by
  unfold smallV at h
  by_cases h0 : 0 ≤ leftV 13 x 1 m
  · rw [dT h0, cond_true] at h
    exact (left_wf 12 x 1 m (by decide) (by omega) h0).2 h
  · rw [dF h0] at h; cases h
def wKids (k : List UInt8) (v : Node) : List (List UInt8) → List Node → List Node
  | a :: t, x :: w => (bif a == k then v else x) :: wKids k v t w
  | _, _ => []
theorem wKids_len (k : List UInt8) (v : Node) : ∀ (ks : List (List UInt8)) (vs : List Node), ks.length = vs.length → (wKids k v ks vs).length = ks.length
  | [], [], _ => rfl
  | a :: t, x :: w, h => by simp only [wKids, List.length_cons]; rw [wKids_len k v t w (by simpa using h)]
  | [], _ :: _, h => by simp at h
  | _ :: _, [], h => by simp at h
theorem wKids_mem (k : List UInt8) (v : Node) : ∀ (ks : List (List UInt8)) (vs : List Node) (y : Node), y ∈ wKids k v ks vs → y = v ∨ y ∈ vs
  | [], vs, y, h => by simp [wKids] at h
  | _ :: _, [], y, h => by simp [wKids] at h
  | a :: t, x :: w, y, h => by
    simp only [wKids, List.mem_cons] at h
    rcases h with h | h
    · cases hb : a == k with
      | true => rw [hb] at h; exact .inl h
      | false => rw [hb] at h; exact .inr (by rw [h]; exact List.mem_cons_self)
    · rcases wKids_mem k v t w y h with h | h
      · exact .inl h
      · exact .inr (List.mem_cons_of_mem _ h)
def newK (th : Bool) (k : List UInt8) : List (List UInt8) := bif th then [] else [k]
def newV (th : Bool) (v : Node) : List Node := bif th then [] else [v]
def withV (x : Node) (k : List UInt8) (v : Node) : Node := bif (bif x.kind != 0 then x.kind != 3 else false) then x else ⟨3, [], x.keys ++ newK (inV x.keys k) k, wKids k v x.keys x.kids ++ newV (inV x.keys k) v⟩
def okWi (x : Node) (_ : List UInt8) (_ : Node) : Bool := decide (x.keys.length ≤ 100000) && decide (x.keys.length = x.kids.length)
theorem okWi_iff {x : Node} {k : List UInt8} {v : Node} : okWi x k v = true ↔ x.keys.length ≤ 100000 ∧ x.keys.length = x.kids.length := by simp [okWi]
noncomputable def rwith_W : FnW E := fn3 (E := E) .api_Node .str .api_Node .api_Node okWi withV
def rwith_id : FuncId := 6
noncomputable def rwith_O : Oracle E := orac [] [] [] []
noncomputable def rwith_H : Hint E := { live := [(0, [1, 3, 5, 6, 7, 8, 9])], nils := [(0, [(7, some 2, true, .str), (7, some 3, true, .api_Node)])] }
noncomputable def rwith_C0 (v0 : List UInt8) (v1 : Bool) (v2 v3 : Int) (v4 : List UInt8) (v5 : List (List UInt8)) (v6 : List Node) (v7 : Int) (v8 : List UInt8) (v9 : List (List UInt8)) (v10 : List Node) (v11 : Int) (v12 : List UInt8) (v13 : Int) (v14 : List UInt8) (v15 : List (List UInt8)) (v16 : List Node) : ASt E := ASt.mk 75 [(1, .d (.str v0)), (3, .ptr 0 0), (5, .ptr 1 0), (6, .ptr 2 0), (7, .ptr 3 0), (8, .d (.bool v1)), (9, .d (.int .i64 v2))] [(0, .box [.d (.int .i64 v3), .d (.str v4), .d (.slice .str v5), .d (.slice .api_Node v6)]), (1, .box [.d (.int .i64 v7), .d (.str v8), .d (.slice .str v9), .d (.slice .api_Node v10)]), (2, .box [.d (.int .i64 v11), .d (.str v12), .d (.raw (.slice none 0 0)), .d (.raw (.slice none 0 0))]), (3, .box [.d (.int .i64 v13), .d (.str v14), .grow .str v15 4, .grow .api_Node v16 5]), (4, .tail true), (5, .tail true)] 6
noncomputable def rwith_t (G : Nat → ASt E → Option (List (TV E))) (x0 : Node) (x1 : List UInt8) (x2 : Node) : Option (List (TV E)) :=
  bif (bif (x0.kind != (0 : Int)) then (x0.kind != (3 : Int)) else false) then some [⟨.api_Node, (⟨x0.kind, x0.text, x0.keys, x0.kids⟩ : Node)⟩] else G 0 (rwith_C0 x1 false 0 x0.kind x0.text x0.keys x0.kids x2.kind x2.text x2.keys x2.kids 0 [] 3 [] [] [])
theorem rwith_e (G : Nat → ASt E → Option (List (TV E))) (x0 : Node) (x1 : List UInt8) (x2 : Node) : runE rwith_O rwith_H G Tryz.f6 [⟨.api_Node, x0⟩, ⟨.str, x1⟩, ⟨.api_Node, x2⟩] = rwith_t G x0 x1 x2 := by kernel_rfl
noncomputable def rwith_t0 (G : Nat → ASt E → Option (List (TV E))) (v0 : List UInt8) (v1 : Bool) (v2 v3 : Int) (v4 : List UInt8) (v5 : List (List UInt8)) (v6 : List Node) (v7 : Int) (v8 : List UInt8) (v9 : List (List UInt8)) (v10 : List Node) (v11 : Int) (v12 : List UInt8) (v13 : Int) (v14 : List UInt8) (v15 : List (List UInt8)) (v16 : List Node) : Option (List (TV E)) :=
  bif (decide (v2 < (v5.length : Int))) then (bif (decide ((0 : Int) ≤ v2) && decide (v2 < (v5.length : Int))) then (bif (decide ((v15.length + ([(List.getD v5 (Int.toNat v2) (dflt .str))] : List (List UInt8)).length) * 16 ≤ maxBytes)) then (bif (decide ((0 : Int) ≤ v2) && decide (v2 < (v5.length : Int))) then (bif ((List.getD v5 (Int.toNat v2) (dflt .str)) == v0) then (bif (decide ((v16.length + ([(⟨v7, v8, v9, v10⟩ : Node)] : List Node).length) * 72 ≤ maxBytes)) then G 0 (rwith_C0 v0 true (w64 (v2 + (1 : Int))) v3 v4 v5 v6 v7 v8 v9 v10 v11 v12 v13 v14 (v15 ++ ([(List.getD v5 (Int.toNat v2) (dflt .str))] : List (List UInt8))) (v16 ++ ([(⟨v7, v8, v9, v10⟩ : Node)] : List Node))) else none) else (bif (decide ((0 : Int) ≤ v2) && decide (v2 < (v6.length : Int))) then (bif (decide ((v16.length + ([(⟨(List.getD v6 (Int.toNat v2) (dflt .api_Node)).kind, (List.getD v6 (Int.toNat v2) (dflt .api_Node)).text, (List.getD v6 (Int.toNat v2) (dflt .api_Node)).keys, (List.getD v6 (Int.toNat v2) (dflt .api_Node)).kids⟩ : Node)] : List Node).length) * 72 ≤ maxBytes)) then G 0 (rwith_C0 v0 v1 (w64 (v2 + (1 : Int))) v3 v4 v5 v6 v7 v8 v9 v10 v11 v12 v13 v14 (v15 ++ ([(List.getD v5 (Int.toNat v2) (dflt .str))] : List (List UInt8))) (v16 ++ ([(⟨(List.getD v6 (Int.toNat v2) (dflt .api_Node)).kind, (List.getD v6 (Int.toNat v2) (dflt .api_Node)).text, (List.getD v6 (Int.toNat v2) (dflt .api_Node)).keys, (List.getD v6 (Int.toNat v2) (dflt .api_Node)).kids⟩ : Node)] : List Node))) else none) else none)) else none) else none) else none) else (bif (!v1) then (bif (decide ((v15.length + ([v0] : List (List UInt8)).length) * 16 ≤ maxBytes)) then (bif (decide ((v16.length + ([(⟨v7, v8, v9, v10⟩ : Node)] : List Node).length) * 72 ≤ maxBytes)) then some [⟨.api_Node, (⟨v13, v14, (v15 ++ ([v0] : List (List UInt8))), (v16 ++ ([(⟨v7, v8, v9, v10⟩ : Node)] : List Node))⟩ : Node)⟩] else none) else none) else some [⟨.api_Node, (⟨v13, v14, v15, v16⟩ : Node)⟩])
theorem rwith_l0 (G : Nat → ASt E → Option (List (TV E))) (v0 : List UInt8) (v1 : Bool) (v2 v3 : Int) (v4 : List UInt8) (v5 : List (List UInt8)) (v6 : List Node) (v7 : Int) (v8 : List UInt8) (v9 : List (List UInt8)) (v10 : List Node) (v11 : Int) (v12 : List UInt8) (v13 : Int) (v14 : List UInt8) (v15 : List (List UInt8)) (v16 : List Node) : runL rwith_O rwith_H G Tryz.f6 0 (rwith_C0 v0 v1 v2 v3 v4 v5 v6 v7 v8 v9 v10 v11 v12 v13 v14 v15 v16) = rwith_t0 G v0 v1 v2 v3 v4 v5 v6 v7 v8 v9 v10 v11 v12 v13 v14 v15 v16 := by kernel_rfl
theorem rwith_f : Tryz.prog.funcs[6]? = some Tryz.f6 := by kernel_rfl
theorem rwith_n : (Tryz.f6.name == "runtime.NumGoroutine") = false := by kernel_rfl
theorem rwith_b : Tryz.f6.body.isNone = false := by kernel_rfl
theorem rwith_hO : OracleOk E rwith_O := orac_ok .nil .nil .nil .nil
theorem rwith_s0 {res : List (TV E)} {v0 : List UInt8} {v1 : Bool} {v2 v3 : Int} {v4 : List UInt8} {v5 : List (List UInt8)} {v6 : List Node} {v7 : Int} {v8 : List UInt8} {v9 : List (List UInt8)} {v10 : List Node} {v11 : Int} {v12 : List UInt8} {v13 : Int} {v14 : List UInt8} {v15 : List (List UInt8)} {v16 : List Node} (h : rwith_t0 (Gr E Tryz.f6 res) v0 v1 v2 v3 v4 v5 v6 v7 v8 v9 v10 v11 v12 v13 v14 v15 v16 = some res) : Ev E Tryz.f6 res 0 (rwith_C0 v0 v1 v2 v3 v4 v5 v6 v7 v8 v9 v10 v11 v12 v13 v14 v15 v16) := Ev.step rwith_hO mix ((rwith_l0 _ v0 v1 v2 v3 v4 v5 v6 v7 v8 v9 v10 v11 v12 v13 v14 v15 v16).trans h)
theorem rwith_ok_of (h : ∀ (x0 : Node) (x1 : List UInt8) (x2 : Node), okWi x0 x1 x2 = true → rwith_t (Gr E Tryz.f6 [⟨.api_Node, withV x0 x1 x2⟩]) x0 x1 x2 = some [⟨.api_Node, withV x0 x1 x2⟩]) : FnOk E rwith_id rwith_W := fn3_ok rwith_hO mix rwith_f rwith_n rwith_b (fun x0 x1 x2 hk => (rwith_e _ x0 x1 x2).trans (h x0 x1 x2 hk))
theorem rwith_0 (keys : List (List UInt8)) (kids : List Node) (k : List UInt8) (v : Node) (hs : keys.length ≤ 100000) (hl : keys.length = kids.length) (a0 : Int) (a1 : List UInt8) (u0 : Int) (u1 : List UInt8) (u2 : Int) (u3 : List UInt8) : ∀ (m i : Nat) (th : Bool) (ok : List (List UInt8)) (ov : List Node), keys.length - i = m → i ≤ keys.length → ok.length = i → ov.length = i →
    Ev E Tryz.f6 [⟨.api_Node, (⟨u2, u3, ok ++ (keys.drop i ++ newK (th || inV (keys.drop i) k) k), ov ++ (wKids k v (keys.drop i) (kids.drop i) ++ newV (th || inV (keys.drop i) k) v)⟩ : Node)⟩] 0 (rwith_C0 k th i a0 a1 keys kids v.kind v.text v.keys v.kids u0 u1 u2 u3 ok ov) := by
  intro m
  induction m with
  | zero =>
    intro i th ok ov h1 h2 h3 h4
    refine rwith_s0 ?_
    simp only [rwith_t0, dge (show keys.length ≤ i by omega), cond_false, List.drop_eq_nil_of_le (show keys.length ≤ i by omega)]
    cases th with
    | true => simp [newK, newV, wKids]
    | false =>
      rw [Bool.not_false, cond_true, dT (show (ok.length + [k].length) * 16 ≤ maxBytes by rw [mb, List.length_singleton]; omega), cond_true, node_eta, dT (show (ov.length + [v].length) * 72 ≤ maxBytes by rw [mb, List.length_singleton]; omega), cond_true]
      simp [newK, newV, wKids, inV]
  | succ m ih2 =>
    intro i th ok ov h1 h2 h3 h4
    have hi : i < keys.length := by omega
    have hj : i < kids.length := by omega
    have e3 : w64 ((i : Int) + 1) = ((i + 1 : Nat) : Int) := by rw [w64_id (by omega) (by omega)]; omega
    refine rwith_s0 ?_
    simp only [rwith_t0, dlt hi, d0, gd keys _ i hi, e3, Bool.and_self, Bool.true_or, cond_true, node_eta, dlt hj, gd kids _ i hj]
    rw [← List.getElem_cons_drop hi]
    have e1 : ∀ x : List UInt8, decide ((ok.length + [x].length) * 16 ≤ maxBytes) = true := fun x => dT (by rw [mb, List.length_singleton]; omega)
    have e2 : ∀ x : Node, decide ((ov.length + [x].length) * 72 ≤ maxBytes) = true := fun x => dT (by rw [mb, List.length_singleton]; omega)
    simp only [e1, e2, cond_true]
    rw [← List.getElem_cons_drop hj]
    simp only [wKids, inV, List.any_cons]
    cases hb : keys[i] == k with
    | true =>
      simp only [cond_true]
      have := Gr_of (ih2 (i + 1) true (ok ++ [keys[i]]) (ov ++ [v]) (by omega) (by omega) (by simp [h3]) (by simp [h4]))
      simp only [inV, Bool.true_or, Bool.or_true, List.append_assoc, List.singleton_append] at this ⊢
      exact this
    | false =>
      simp only [cond_false]
      have := Gr_of (ih2 (i + 1) th (ok ++ [keys[i]]) (ov ++ [kids[i]]) (by omega) (by omega) (by simp [h3]) (by simp [h4]))
      simp only [inV, Bool.false_or, List.append_assoc, List.singleton_append] at this ⊢
      exact this
theorem rwith_ok : FnOk E rwith_id rwith_W := rwith_ok_of fun x k v hk => by
  obtain ⟨h1, h2⟩ := okWi_iff.1 hk
  unfold withV
  simp only [rwith_t, node_eta]
  cases hc : (bif x.kind != 0 then x.kind != 3 else false) with
  | true => simp only [cond_true]
  | false =>
    simp only [cond_false]
    have := Gr_of (rwith_0 x.keys x.kids k v h1 h2 x.kind x.text 0 [] 3 [] x.keys.length 0 false [] [] (by omega) (by omega) rfl rfl)
    rw [List.drop_zero, List.drop_zero, List.nil_append, List.nil_append, Bool.false_or] at this
    exact this
theorem newKV (th : Bool) (k : List UInt8) (v : Node) : (newK th k).length = (newV th v).length ∧ (newK th k).length ≤ 1 := by cases th <;> exact ⟨rfl, by simp [newK]⟩
theorem withV_fit {x : Node} {k : List UInt8} {v : Node} (hk : x.kind = 0 ∨ x.kind = 3) (h : x.keys.length = x.kids.length) :
    (withV x k v).kind = 3 ∧ (withV x k v).keys.length = (withV x k v).kids.length ∧ (withV x k v).keys.length ≤ x.keys.length + 1 ∧ ∀ y ∈ (withV x k v).kids, y = v ∨ y ∈ x.kids := by
  have hc : (bif x.kind != 0 then x.kind != 3 else false) = false := by rcases hk with e | e <;> rw [e] <;> rfl
  unfold withV
  rw [hc]
  have hw := wKids_len k v x.keys x.kids h
  have hn := newKV (inV x.keys k) k v
  refine ⟨rfl, ?_, ?_, fun y hy => ?_⟩
  · simp only [cond_false, List.length_append, hw, hn.1]
  · simp only [cond_false, List.length_append]; omega
  · simp only [cond_false, List.mem_append] at hy
    rcases hy with hy | hy
    · exact wKids_mem k v _ _ y hy
    · left
      unfold newV at hy
      cases hi : inV x.keys k with
      | true => rw [hi] at hy; cases hy
      | false => rw [hi] at hy; simpa using hy
theorem left_wg : ∀ (n : Nat) (x : Node) (d l : Int) (B : Nat), d + (n + 1 : Nat) = 14 → l ≤ B + 1 → 0 ≤ leftV (n + 1) x d l → wg B n x = true
  | n, x, d, l, B, hd, hl, h => by
    unfold leftV at h
    cases h1 : badA x d (l - 1) with
    | true => rw [h1, cond_true] at h; omega
    | false =>
      cases h2 : badB x with
      | true => rw [h1, h2, cond_false, cond_true] at h; omega
      | false =>
        cases h3 : badC x (l - 1) with
        | true => rw [h1, h2, h3, cond_false, cond_false, cond_true] at h; omega
        | false =>
          rw [h1, h2, h3, cond_false, cond_false, cond_false] at h
          have hA : ¬ 12 < d := by
            intro a2
            unfold badA at h1
            rw [dT a2] at h1
            cases hx : decide (l - 1 < 0) <;> rw [hx] at h1 <;> cases h1
          obtain ⟨m, rfl⟩ : ∃ m, n = m + 1 := ⟨n - 1, by omega⟩
          obtain ⟨q1, q2⟩ := kidsV_le (fun k l h => leftV_le (m + 1) k (d + 1) l h) x.kids (l - 1) h
          have hrec : ∀ y ∈ x.kids, wg B m y = true := fun y hy => by
            obtain ⟨l', h4, h5⟩ := q2 y hy
            exact left_wg m y (d + 1) l' B (by omega) (by omega) h4
          have hkeys : (x.kind = 3 → x.keys.length = x.kids.length) ∧ (x.kind ≠ 3 → x.keys.length = 0) := by
            constructor
            · intro e
              unfold badC at h3
              rw [eqT e, cond_true] at h3
              by_cases a1 : (x.keys.length : Int) = x.kids.length
              · omega
              · rw [neT a1] at h3; cases h3
            · intro e
              unfold badB at h2
              rw [neT e, cond_true] at h2
              by_cases a1 : (0 : Int) < (x.keys.length : Int)
              · rw [dT a1] at h2
                cases hx : (bif x.kind != 1 then decide ((0 : Int) < (x.text.length : Int)) else false) <;> rw [hx] at h2 <;> cases h2
              · omega
          have hk : x.keys.length ≤ B := by
            by_cases e : x.kind = 3
            · have := hkeys.1 e; omega
            · have := hkeys.2 e; omega
          exact wg_iff.2 ⟨hk, by omega, hkeys.1, hrec⟩
  termination_by n => n
def rightB (x : Node) : Bool := decide (0 ≤ leftV 13 x 1 2000)
noncomputable def rright_W : FnW E := fn1 (E := E) .api_Node .bool (fun _ => true) rightB
def rright_id : FuncId := 7
noncomputable def rright_O : Oracle E := orac [(11, left_W 13)] [] [] []
noncomputable def rright_H : Hint E := {}
noncomputable def rright_t (_G : Nat → ASt E → Option (List (TV E))) (x0 : Node) : Option (List (TV E)) :=
  bif ((okL 13) (⟨x0.kind, x0.text, x0.keys, x0.kids⟩ : Node) (1 : Int) (2000 : Int)) then some [⟨.bool, (decide ((0 : Int) ≤ ((leftV 13) (⟨x0.kind, x0.text, x0.keys, x0.kids⟩ : Node) (1 : Int) (2000 : Int))))⟩] else none
theorem rright_e (G : Nat → ASt E → Option (List (TV E))) (x0 : Node) : runE rright_O rright_H G Tryz.f7 [⟨.api_Node, x0⟩] = rright_t G x0 := by kernel_rfl
theorem rright_f : Tryz.prog.funcs[7]? = some Tryz.f7 := by kernel_rfl
theorem rright_n : (Tryz.f7.name == "runtime.NumGoroutine") = false := by kernel_rfl
theorem rright_b : Tryz.f7.body.isNone = false := by kernel_rfl
theorem rright_hO : OracleOk E rright_O := orac_ok (.cons (left_ok 13) .nil) .nil .nil .nil
theorem rright_ok_of (h : ∀ (x0 : Node), rright_t (Gr E Tryz.f7 [⟨.bool, rightB x0⟩]) x0 = some [⟨.bool, rightB x0⟩]) : FnOk E rright_id rright_W := fn1_ok rright_hO mix rright_f rright_n rright_b (fun x0 _ => (rright_e _ x0).trans (h x0))
theorem rright_ok : FnOk E rright_id rright_W := rright_ok_of fun x => by
  have e1 : okL 13 x 1 2000 = true := okL_iff.2 (by decide)
  simp only [rright_t, node_eta, e1, cond_true]
  rfl
end Go.Proofs.YtiahkjjfhnfdiaaGreatDoor.Rf
namespace Go.Proofs.YtiahkjjfhnfdiaaGreatDoor.Rf
open Go Go.RowKit Go.Sort Go.Proofs.YtiahkjjfhnfdiaaGreatDoor.Mir
noncomputable section
section
variable {ρ σ : Type} (t : Tree ρ σ) (mk : List (List UInt8) → Int → Int → Node → Int → List UInt8 → Node → σ) (pw : σ → Option Node)
def rnd (y1 : List UInt8) (y2 w : Node) : Option (ρ ⊕ Node) := t _ (fun r => some (.inl r)) (fun s => (pw s).map .inr) none (mk [y1] 1 0 ⟨3, [], [y1], [y2]⟩ 0 [] w)
def fld : List (List UInt8 × Node) → Node → Option ρ
  | [], w => t _ some (fun _ => none) none (mk [] 0 0 ⟨3, [], [], []⟩ 0 [] w)
  | (y1, y2) :: L, w => match rnd t mk pw y1 y2 w with
    | some (.inl r) => some r
    | some (.inr w') => fld L w'
    | none => none
structure Each : Prop where
  n : NatT t
  p : ∀ ks len i x a b w, pw (mk ks len i x a b w) = some w
  r : ∀ ks len i x a b w, 0 ≤ i → i < len → len = (ks.length : Int) → len = (x.kids.length : Int) → t _ (fun r => some (.inl r)) (fun s => (pw s).map .inr) none (mk ks len i x a b w) = rnd t mk pw (ks.getD i.toNat Df.d) (x.kids.getD i.toNat Df.d) w
  i : ∀ ks len i x a b w, i < len → t Prop (fun _ => True) (fun s' => ∃ w', s' = mk ks len (w64 (i + 1)) x a b w') True (mk ks len i x a b w)
  e : ∀ ks len i x a b w g, ¬ i < len → t (Option ρ) some g none (mk ks len i x a b w) = fld t mk pw [] w
end
section
variable {ρ σ : Type} {t : Tree ρ σ} {mk : List (List UInt8) → Int → Int → Node → Int → List UInt8 → Node → σ} {pw : σ → Option Node}
theorem Each.fold (h : Each t mk pw) (ks : List (List UInt8)) (x : Node) (a : Int) (b : List UInt8) (hl : ks.length = x.kids.length) (h1 : ks.length ≤ 1000000) : ∀ (f i : Nat) (w : Node) (r : ρ), i ≤ ks.length → muF t f (mk ks ks.length i x a b w) = some r → fld t mk pw (List.zip (ks.drop i) (x.kids.drop i)) w = some r
  | 0, _, _, _, _, e => by cases e
  | f + 1, i, w, r, hi, e => by
    by_cases hk : i < ks.length
    · have h2 := h.r ks ks.length i x a b w (by omega) (by omega) rfl (by omega)
      have h3 := h.i ks ks.length i x a b w (by omega)
      rw [h.n] at h2 h3
      rw [muF, h.n] at e
      have hk' : i < x.kids.length := by omega
      rw [← List.getElem_cons_drop hk, ← List.getElem_cons_drop hk', List.zip_cons_cons, fld]
      have g1 : ks.getD (i : Int).toNat Df.d = ks[i] := by simp [List.getD, hk]
      have g2 : x.kids.getD (i : Int).toNat Df.d = x.kids[i] := by simp [List.getD, hk']
      rw [g1, g2] at h2
      rw [← h2]
      cases hc : t _ Tr.k Tr.g Tr.n (mk ks ks.length i x a b w) with
      | k r' =>
        rw [hc] at e
        exact e
      | n => rw [hc] at e; cases e
      | g s' =>
        rw [hc] at e h3
        obtain ⟨w', rfl⟩ : ∃ w', s' = _ := h3
        have e : muF t f _ = some r := e
        rw [show w64 ((i : Int) + 1) = ((i + 1 : Nat) : Int) by rw [w64_id (by omega) (by omega)]; rfl] at e ⊢
        have := h.fold ks x a b hl h1 f (i + 1) w' r (by omega) e
        simp only [Tr.el, h.p, Option.map_some]
        exact this
    · have hi' : i = ks.length := by omega
      subst hi'
      rw [muF, h.e ks ks.length ks.length x a b w _ (by omega)] at e
      rw [List.drop_length]
      simpa using e
def Nob (t : Tree ρ σ) (mk : List (List UInt8) → Int → Int → Node → Int → List UInt8 → Node → σ) (pw : σ → Option Node) (k : List UInt8) : Prop := ∀ v w, rnd t mk pw k v w = some (.inr w)
theorem fld_app {k : List UInt8} (hk : Nob t mk pw k) (v : Node) : ∀ (L : List (List UInt8 × Node)) (w : Node), fld t mk pw (L ++ [(k, v)]) w = fld t mk pw L w
  | [], w => by
    rw [List.nil_append, fld.eq_2, hk]
  | (y1, y2) :: L, w => by
    rw [List.cons_append, fld, fld]
    cases rnd t mk pw y1 y2 w with
    | none => rfl
    | some q => cases q with
      | inl r => rfl
      | inr w' => exact fld_app hk v L w'
theorem fld_set {k : List UInt8} (hk : Nob t mk pw k) (v : Node) : ∀ (ks : List (List UInt8)) (vs : List Node) (w : Node), fld t mk pw (List.zip ks (wKids k v ks vs)) w = fld t mk pw (List.zip ks vs) w
  | [], vs, w => by simp
  | a :: ks, [], w => by simp [wKids]
  | a :: ks, x :: vs, w => by
    rw [wKids, List.zip_cons_cons, List.zip_cons_cons, fld, fld]
    cases hb : a == k with
    | true =>
      have : a = k := by simpa using hb
      subst this
      rw [hk, hk]
      exact fld_set hk v ks vs w
    | false =>
      rw [cond_false]
      cases rnd t mk pw a x w with
      | none => rfl
      | some q => cases q with
        | inl r => rfl
        | inr w' => exact fld_set hk v ks vs w'
theorem fld_with {k : List UInt8} (hk : Nob t mk pw k) (v n w : Node) (h3 : n.kind = 3) (hl : n.keys.length = n.kids.length) : fld t mk pw (List.zip (withV n k v).keys (withV n k v).kids) w = fld t mk pw (List.zip n.keys n.kids) w := by
  unfold withV
  rw [show (bif n.kind != 0 then n.kind != 3 else false) = false by rw [h3]; rfl, cond_false]
  show fld t mk pw (List.zip (n.keys ++ newK (inV n.keys k) k) (wKids k v n.keys n.kids ++ newV (inV n.keys k) v)) w = _
  rw [List.zip_append (by rw [wKids_len k v _ _ hl])]
  cases inV n.keys k with
  | true => simp only [newK, newV, cond_true, List.zip_nil_left, List.append_nil]; exact fld_set hk v _ _ w
  | false =>
    simp only [newK, newV, cond_false, List.zip_cons_cons, List.zip_nil_left]
    rw [fld_app hk, fld_set hk]
end
end
end Go.Proofs.YtiahkjjfhnfdiaaGreatDoor.Rf
namespace Go.Proofs.YtiahkjjfhnfdiaaGreatDoor.Rf
open Go Go.RowKit Go.Sort Go.Proofs.YtiahkjjfhnfdiaaGreatDoor.Mir
noncomputable section
theorem ix_in {α τ : Type} [Df α] {l : List α} {i : Int} (h0 : 0 ≤ i) (h : i < (l.length : Int)) (n : τ) (f : α → τ) : ix l i n f = f (l.getD i.toNat Df.d) := by
  unfold ix
  rw [decide_eq_true h0, decide_eq_true h]; rfl
theorem ix_one {α τ : Type} [Df α] (y : α) (n : τ) (f : α → τ) : ix [y] 0 n f = f y := rfl
theorem bT {c : Bool} {P Q : Prop} (h : P) (h' : Q) : bif c then P else Q := by cases c <;> assumption
theorem ckT {c : Bool} {P : Prop} (h : P) : ck c True P := by cases c; exact trivial; exact h
theorem clT {α : Type} [Df α] {o : Option α} {f : α → Prop} (h : ∀ x, f x) : cl o True f := by cases o; exact trivial; exact h _
theorem ixT {α : Type} [Df α] {l : List α} {i : Int} {f : α → Prop} (h : ∀ x, f x) : ix l i True f := by unfold ix; exact bT (h _) trivial
def sPw : schema_each__schema_Service_1_S → Option Node
  | .h0 _ _ _ _ _ _ w => some w
  | .e _ => none
def fPw : schema_each__schema_File_1_S → Option Node
  | .h0 _ _ _ _ _ _ w => some w
  | .e _ => none
set_option maxHeartbeats 2000000 in
theorem sEach : Each schema_each__schema_Service_1_t .h0 sPw where
  n := schema_each__schema_Service_1_N
  p := fun _ _ _ _ _ _ _ => rfl
  r := fun ks len i x a b w h0 h1 h2 h3 => by
    unfold rnd
    simp only [schema_each__schema_Service_1_t]
    rw [decide_eq_true h1, cond_true, ix_in h0 (by omega), ix_in h0 (by omega), show decide ((0 : Int) < 1) = true from rfl, cond_true, ix_one, ix_one]
    rfl
  i := fun ks len i x a b w h1 => by
    simp only [schema_each__schema_Service_1_t]
    repeat' (first | refine ixT fun _ => ?_ | refine clT fun _ => ?_ | refine ckT ?_ | refine bT ?_ ?_ | exact ⟨_, rfl⟩ | exact trivial)
  e := fun ks len i x a b w g h1 => by
    simp only [schema_each__schema_Service_1_t, fld]
    rw [decide_eq_false h1]
    rfl
theorem fEach : Each schema_each__schema_File_1_t .h0 fPw where
  n := schema_each__schema_File_1_N
  p := fun _ _ _ _ _ _ _ => rfl
  r := fun ks len i x a b w h0 h1 h2 h3 => by
    unfold rnd
    simp only [schema_each__schema_File_1_t]
    rw [decide_eq_true h1, cond_true, ix_in h0 (by omega), ix_in h0 (by omega), show decide ((0 : Int) < 1) = true from rfl, cond_true, ix_one, ix_one]
    rfl
  i := fun ks len i x a b w h1 => by
    simp only [schema_each__schema_File_1_t]
    repeat' (first | refine ixT fun _ => ?_ | refine clT fun _ => ?_ | refine ckT ?_ | refine bT ?_ ?_ | exact ⟨_, rfl⟩ | exact trivial)
  e := fun ks len i x a b w g h1 => by
    simp only [schema_each__schema_File_1_t, fld]
    rw [decide_eq_false h1]
    rfl
end
end Go.Proofs.YtiahkjjfhnfdiaaGreatDoor.Rf
namespace Go.Proofs.YtiahkjjfhnfdiaaGreatDoor.Rf
open Go Go.RowKit Go.Sort Go.Proofs.YtiahkjjfhnfdiaaGreatDoor.Mir
noncomputable section
theorem foreign_e {k : List UInt8} (hk : [120, 45].isPrefixOf k = true) : schema_foreign_m k = some true := by
  obtain ⟨h1, h2⟩ := schema_foreign_z k
  rw [hk] at h2
  cases h : schema_foreign_m k with
  | none => rw [h] at h1; cases h1
  | some r => rw [h] at h2; exact congrArg some h2
theorem sNob {k : List UInt8} (hk : [120, 45].isPrefixOf k = true) : Nob schema_each__schema_Service_1_t .h0 sPw k := fun v w => by
  unfold rnd
  simp only [schema_each__schema_Service_1_t]
  rw [show decide ((0 : Int) < 1) = true from rfl, cond_true, ix_one, ix_one, foreign_e hk, cl_some, cond_true]
  rfl
theorem fNob {k : List UInt8} (hk : [120, 45].isPrefixOf k = true) : Nob schema_each__schema_File_1_t .h0 fPw k := fun v w => by
  unfold rnd
  simp only [schema_each__schema_File_1_t]
  rw [show decide ((0 : Int) < 1) = true from rfl, cond_true, ix_one, ix_one, foreign_e hk, cl_some, cond_true]
  rfl
def fuelL : Nat := 999999999999999999999999999999
theorem fuel_e : fuelN = fuelL + 1 := rfl
theorem mu_e {ρ σ : Type} (t : Tree ρ σ) (s : σ) : mu t s = t (Option ρ) some (muF t fuelL) none s := by unfold mu; rw [fuel_e, muF]
theorem sEach_e {x : Node} (h3 : x.kind = 3) (hp : H1 x) : schema_each__schema_Service_1_m x = fld schema_each__schema_Service_1_t .h0 sPw (List.zip x.keys x.kids) ⟨3, [], [], []⟩ := by
  obtain ⟨h1, _⟩ := schema_each__schema_Service_1_z x hp
  obtain ⟨r, hr⟩ := Option.isSome_iff_exists.1 h1
  have e := hr
  unfold schema_each__schema_Service_1_m at e
  rw [mu_e] at e
  simp only [schema_each__schema_Service_1_t, h3] at e
  have e : muF schema_each__schema_Service_1_t fuelL (.h0 x.keys x.keys.length ((0 : Nat) : Int) x 0 [] ⟨3, [], [], []⟩) = some r := e
  have hz := H1_z hp
  have := sEach.fold x.keys x 0 [] (hz.2.1 h3) (by omega) fuelL 0 _ r (Nat.zero_le _) e
  rw [List.drop_zero, List.drop_zero] at this
  rw [hr, this]
theorem fEach_e {x : Node} (h3 : x.kind = 3) (hp : H3 x) : schema_each__schema_File_1_m x = fld schema_each__schema_File_1_t .h0 fPw (List.zip x.keys x.kids) ⟨3, [], [], []⟩ := by
  obtain ⟨h1, _⟩ := schema_each__schema_File_1_z x hp
  obtain ⟨r, hr⟩ := Option.isSome_iff_exists.1 h1
  have e := hr
  unfold schema_each__schema_File_1_m at e
  rw [mu_e] at e
  simp only [schema_each__schema_File_1_t, h3] at e
  have e : muF schema_each__schema_File_1_t fuelL (.h0 x.keys x.keys.length ((0 : Nat) : Int) x 0 [] ⟨3, [], [], []⟩) = some r := e
  have hz := H3_z hp
  have := fEach.fold x.keys x 0 [] (hz.2.1 h3) (by omega) fuelL 0 _ r (Nat.zero_le _) e
  rw [List.drop_zero, List.drop_zero] at this
  rw [hr, this]
theorem withV_kind {x : Node} (k : List UInt8) (v : Node) (h3 : x.kind = 3) : (withV x k v).kind = 3 := by
  unfold withV
  rw [show (bif x.kind != 0 then x.kind != 3 else false) = false by rw [h3]; rfl, cond_false]
theorem service_e {x : Node} {k : List UInt8} {v : Node} (hk : [120, 45].isPrefixOf k = true) (h3 : x.kind = 3) (hp : H1 x) (hm : H1 (withV x k v)) : schema_Service_m (withV x k v) = schema_Service_m x := by
  have e : schema_each__schema_Service_1_m (withV x k v) = schema_each__schema_Service_1_m x := by
    rw [sEach_e h3 hp, sEach_e (withV_kind k v h3) hm]
    exact fld_with (sNob hk) v x _ h3 ((H1_z hp).2.1 h3)
  unfold schema_Service_m
  rw [mu_e, mu_e]
  simp only [schema_Service_t, etNode_eq, e]
theorem file_e {x : Node} {k : List UInt8} {v : Node} (hk : [120, 45].isPrefixOf k = true) (h3 : x.kind = 3) (hp : H3 x) (hm : H3 (withV x k v)) : schema_File_m (withV x k v) = schema_File_m x := by
  have e : schema_each__schema_File_1_m (withV x k v) = schema_each__schema_File_1_m x := by
    rw [fEach_e h3 hp, fEach_e (withV_kind k v h3) hm]
    exact fld_with (fNob hk) v x _ h3 ((H3_z hp).2.1 h3)
  unfold schema_File_m
  rw [mu_e, mu_e]
  simp only [schema_File_t, etNode_eq, e]
end
end Go.Proofs.YtiahkjjfhnfdiaaGreatDoor.Rf
namespace Go.Proofs.YtiahkjjfhnfdiaaGreatDoor.Rf
open Go Go.RowKit Go.Sort Go.Proofs.YtiahkjjfhnfdiaaGreatDoor.Mir
noncomputable section
def ln6k {α : Type} (l : List α) : Bool := Nat.ble l.length 1000000
theorem ln6k_eq {α : Type} (l : List α) : ln6 l = ln6k l := by
  unfold ln6 ln6k
  cases h : Nat.ble l.length 1000000 with
  | true => exact decide_eq_true (Nat.le_of_ble_eq_true h)
  | false => exact decide_eq_false fun h' => by rw [Nat.ble_eq_true_of_le h'] at h; cases h
noncomputable def nsortedk_W : FnW E := fn1 (E := E) .l_str .l_str ln6k Pl.ksortD
def nsortedk_id : FuncId := 25
theorem nsortedk_ok : FnOk E nsortedk_id nsortedk_W := by
  have h := nsorted_ok
  unfold nsorted_W at h
  rw [show Pl.sortD = Pl.ksortD from funext Pl.ksortD_eq, show (ln6 : List (List UInt8) → Bool) = ln6k from funext ln6k_eq] at h
  exact h
inductive schema_Fields_S where
  | e
def schema_Fields_t : Tree ((List (List UInt8))) schema_Fields_S := fun _ k _ n s => match s with
  | .e => ck (ln6k ([([105, 109, 97, 103, 101] : List UInt8), ([99, 111, 109, 109, 97, 110, 100] : List UInt8), ([101, 110, 118, 105, 114, 111, 110, 109, 101, 110, 116] : List UInt8), ([108, 97, 98, 101, 108, 115] : List UInt8), ([112, 111, 114, 116, 115] : List UInt8), ([118, 111, 108, 117, 109, 101, 115] : List UInt8), ([110, 101, 116, 119, 111, 114, 107, 115] : List UInt8), ([112, 114, 111, 102, 105, 108, 101, 115] : List UInt8), ([100, 101, 112, 101, 110, 100, 115, 95, 111, 110] : List UInt8), ([101, 120, 116, 101, 110, 100, 115] : List UInt8), ([104, 101, 97, 108, 116, 104, 99, 104, 101, 99, 107] : List UInt8), ([114, 101, 115, 116, 97, 114, 116] : List UInt8), ([115, 99, 97, 108, 101] : List UInt8), ([99, 112, 117, 115] : List UInt8), ([109, 101, 109, 95, 108, 105, 109, 105, 116] : List UInt8)] : List (List UInt8))) n (k (Pl.ksortD ([([105, 109, 97, 103, 101] : List UInt8), ([99, 111, 109, 109, 97, 110, 100] : List UInt8), ([101, 110, 118, 105, 114, 111, 110, 109, 101, 110, 116] : List UInt8), ([108, 97, 98, 101, 108, 115] : List UInt8), ([112, 111, 114, 116, 115] : List UInt8), ([118, 111, 108, 117, 109, 101, 115] : List UInt8), ([110, 101, 116, 119, 111, 114, 107, 115] : List UInt8), ([112, 114, 111, 102, 105, 108, 101, 115] : List UInt8), ([100, 101, 112, 101, 110, 100, 115, 95, 111, 110] : List UInt8), ([101, 120, 116, 101, 110, 100, 115] : List UInt8), ([104, 101, 97, 108, 116, 104, 99, 104, 101, 99, 107] : List UInt8), ([114, 101, 115, 116, 97, 114, 116] : List UInt8), ([115, 99, 97, 108, 101] : List UInt8), ([99, 112, 117, 115] : List UInt8), ([109, 101, 109, 95, 108, 105, 109, 105, 116] : List UInt8)] : List (List UInt8))))
def schema_Fields_O : Oracle E := orac [(25, nsortedk_W)]
theorem schema_Fields_hO : OracleOk E schema_Fields_O := orac_ok (.cons nsortedk_ok .nil) .nil .nil .nil
def schema_Fields_H : Hint E := {}
def schema_Fields_C : schema_Fields_S → Hd E
  | .e => .e []
theorem schema_Fields_N : NatT schema_Fields_t := fun τ k g n s => by cases s <;> simp only [schema_Fields_t, eA]
theorem schema_Fields_R : Runs (E := E) .fn schema_Fields_O Tryz.f13 schema_Fields_H schema_Fields_C (encA (E := E) [.l_str]) schema_Fields_t := ⟨fun s G => by cases s <;> kernel_rfl, schema_Fields_N⟩
def schema_Fields_m : Option ((List (List UInt8))) := mu schema_Fields_t (.e)
def schema_Fields_W : FnW E := fnG (E := E) [] [.l_str] fun _ => schema_Fields_m
theorem schema_Fields_ok : FnOk E 13 schema_Fields_W := Runs.fn (E := E) (ps := []) (rs := [.l_str]) schema_Fields_R schema_Fields_hO mix ⟨Tryz.func13, by kernel_rfl, by kernel_rfl⟩ (st := fun _ => .e ) (fun _ => rfl) fun _ r h => ⟨r, h, rfl⟩
inductive awake_S where
  | e
def awake_t : Tree (Bool) awake_S := fun _ k _ n s => match s with
  | .e => cl (schema_Service_m (⟨(3 : Int), ([] : List UInt8), ([([111, 100, 100] : List UInt8)] : List (List UInt8)), ([(⟨(0 : Int), ([] : List UInt8), ([] : List (List UInt8)), ([] : List Node)⟩ : Node)] : List Node)⟩ : Node)) n fun y1 => cl (schema_File_m (⟨(0 : Int), ([] : List UInt8), ([] : List (List UInt8)), ([] : List Node)⟩ : Node)) n fun y2 => ck ((schema_Fields_m.isSome) || !(bif (bif (bif (y1.2.1 == ([111, 100, 100] : List UInt8)) then (y1.2.2 == (10 : Int)) else false) then (y2.2.2 == (0 : Int)) else false) then ((y2.1).kind == (3 : Int)) else false)) n (k (bif (bif (bif (bif (y1.2.1 == ([111, 100, 100] : List UInt8)) then (y1.2.2 == (10 : Int)) else false) then (y2.2.2 == (0 : Int)) else false) then ((y2.1).kind == (3 : Int)) else false) then (((gv schema_Fields_m).length : Int) == (15 : Int)) else false))
def awake_O : Oracle E := orac [(13, schema_Fields_W), (9, schema_File_W), (8, schema_Service_W)]
theorem awake_hO : OracleOk E awake_O := orac_ok (.cons schema_Fields_ok (.cons schema_File_ok (.cons schema_Service_ok .nil))) .nil .nil .nil
def awake_H : Hint E := {}
def awake_C : awake_S → Hd E
  | .e => .e []
theorem awake_N : NatT awake_t := fun τ k g n s => by cases s <;> simp only [awake_t, eA]
theorem awake_R : Runs (E := E) .fn awake_O Tryz.f5 awake_H awake_C (encA (E := E) [.bool]) awake_t := ⟨fun s G => by cases s <;> kernel_rfl, awake_N⟩
def awake_m : Option (Bool) := mu awake_t (.e)
def awake_W : FnW E := fnG (E := E) [] [.bool] fun _ => awake_m
theorem awake_ok : FnOk E 5 awake_W := Runs.fn (E := E) (ps := []) (rs := [.bool]) awake_R awake_hO mix ⟨Tryz.func5, by kernel_rfl, by kernel_rfl⟩ (st := fun _ => .e ) (fun _ => rfl) fun _ r h => ⟨r, h, rfl⟩
theorem awake_t1 : awake_m = some true := by kernel_rfl
end
end Go.Proofs.YtiahkjjfhnfdiaaGreatDoor.Rf
namespace Go.Proofs.YtiahkjjfhnfdiaaGreatDoor.Rf
open Go Go.RowKit Go.Sort Go.Proofs.YtiahkjjfhnfdiaaGreatDoor.Mir
noncomputable section
inductive law_S where
  | e (x0 : Node) (x1 : Node) (x2 : List UInt8)
def law_t : Tree (Bool) law_S := fun _ k _ n s => match s with
  | .e x0 x1 x2 => ck (okSm (etNode x0) (200 : Int)) n (ck ((okSm (etNode x1) (100 : Int)) || !(!(!(smallV (etNode x0) (200 : Int))))) n (bif (bif (bif (bif (!(smallV (etNode x0) (200 : Int))) then true else (!(smallV (etNode x1) (100 : Int)))) then true else (decide ((100 : Int) < (x2.length : Int)))) then true else (x0.kind != (3 : Int))) then (cl awake_m n fun y1 => k y1) else (ck (decide (([120, 45] : List UInt8).length + x2.length ≤ maxStr)) n (ck (okWi (etNode x0) (([120, 45] : List UInt8) ++ x2) (etNode x1)) n (bif (!(rightB (etNode (withV (etNode x0) (([120, 45] : List UInt8) ++ x2) (etNode x1))))) then (cl awake_m n fun y2 => k y2) else (cl (schema_Service_m (etNode x0)) n fun y3 => cl (schema_Service_m (etNode (withV (etNode x0) (([120, 45] : List UInt8) ++ x2) (etNode x1)))) n fun y4 => cl (schema_File_m (etNode x0)) n fun y5 => cl (schema_File_m (etNode (withV (etNode x0) (([120, 45] : List UInt8) ++ x2) (etNode x1)))) n fun y6 => ck ((okS 1000) (etNode (y3.1)) (etNode (y4.1))) n (ck (((okS 1000) (etNode (y5.1)) (etNode (y6.1))) || !(bif (bif ((same 1000) (etNode (y3.1)) (etNode (y4.1))) then (y3.2.1 == y4.2.1) else false) then (y3.2.2 == y4.2.2) else false)) n (ck ((awake_m.isSome) || !(bif (bif (bif (bif (bif ((same 1000) (etNode (y3.1)) (etNode (y4.1))) then (y3.2.1 == y4.2.1) else false) then (y3.2.2 == y4.2.2) else false) then ((same 1000) (etNode (y5.1)) (etNode (y6.1))) else false) then (y5.2.1 == y6.2.1) else false) then (y5.2.2 == y6.2.2) else false)) n (k (bif (bif (bif (bif (bif (bif ((same 1000) (etNode (y3.1)) (etNode (y4.1))) then (y3.2.1 == y4.2.1) else false) then (y3.2.2 == y4.2.2) else false) then ((same 1000) (etNode (y5.1)) (etNode (y6.1))) else false) then (y5.2.1 == y6.2.1) else false) then (y5.2.2 == y6.2.2) else false) then (gv awake_m) else false))))))))))
def law_O : Oracle E := orac [(5, awake_W), (7, rright_W), (10, rnsame_W 1000), (4, small_W), (6, rwith_W), (9, schema_File_W), (8, schema_Service_W)]
theorem law_hO : OracleOk E law_O := orac_ok (.cons awake_ok (.cons rright_ok (.cons (rnsame_ok 1000) (.cons small_ok (.cons rwith_ok (.cons schema_File_ok (.cons schema_Service_ok .nil))))))) .nil .nil .nil
def law_H : Hint E := {}
def law_C : law_S → Hd E
  | .e x0 x1 x2 => .e [⟨.api_Node, x0⟩, ⟨.api_Node, x1⟩, ⟨.str, x2⟩]
theorem law_N : NatT law_t := fun τ k g n s => by cases s <;> simp only [law_t, eA]
theorem law_R : Runs (E := E) .fn law_O Tryz.f3 law_H law_C (encA (E := E) [.bool]) law_t := ⟨fun s G => by cases s <;> kernel_rfl, law_N⟩
def law_m (x0 : Node) (x1 : Node) (x2 : List UInt8) : Option (Bool) := mu law_t (.e x0 x1 x2)
def law_W : FnW E := fnG (E := E) [.api_Node, .api_Node, .str] [.bool] fun a => law_m a.1 a.2.1 a.2.2
theorem law_ok : FnOk E 3 law_W := Runs.fn (E := E) (ps := [.api_Node, .api_Node, .str]) (rs := [.bool]) law_R law_hO mix ⟨Tryz.func3, by kernel_rfl, by kernel_rfl⟩ (st := fun a => .e a.1 a.2.1 a.2.2) (fun _ => rfl) fun _ r h => ⟨r, h, rfl⟩
end
end Go.Proofs.YtiahkjjfhnfdiaaGreatDoor.Rf
namespace Go.Proofs.YtiahkjjfhnfdiaaGreatDoor.Rf
open Go Go.RowKit Go.Sort Go.Proofs.YtiahkjjfhnfdiaaGreatDoor.Mir
noncomputable section
def kd : Nat → Node → Bool
  | 0, _ => false
  | n + 1, x => decide (0 ≤ x.kind) && decide (x.kind ≤ 3) && decide (x.kind ≠ 3 → x.keys.length = 0) && decide (x.kind < 2 → x.kids.length = 0) && x.kids.all (kd n)
theorem kd_iff {n : Nat} {x : Node} : kd (n + 1) x = true ↔ ((0 ≤ x.kind ∧ x.kind ≤ 3) ∧ (x.kind ≠ 3 → x.keys.length = 0)) ∧ (x.kind < 2 → x.kids.length = 0) ∧ ∀ y ∈ x.kids, kd n y = true := by
  simp only [kd, Bool.and_eq_true, decide_eq_true_eq, List.all_eq_true]
  exact ⟨fun ⟨⟨h1, h2⟩, h3⟩ => ⟨h1, h2, h3⟩, fun ⟨h1, h2, h3⟩ => ⟨⟨h1, h2⟩, h3⟩⟩
theorem left_kd : ∀ (n : Nat) (x : Node) (d l : Int), d + (n + 1 : Nat) = 14 → 0 ≤ leftV (n + 1) x d l → kd n x = true
  | n, x, d, l, hd, h => by
    unfold leftV at h
    cases h1 : badA x d (l - 1) with
    | true => rw [h1, cond_true] at h; omega
    | false =>
      cases h2 : badB x with
      | true => rw [h1, h2, cond_false, cond_true] at h; omega
      | false =>
        cases h3 : badC x (l - 1) with
        | true => rw [h1, h2, h3, cond_false, cond_false, cond_true] at h; omega
        | false =>
          rw [h1, h2, h3, cond_false, cond_false, cond_false] at h
          have hA : ¬ 12 < d ∧ 0 ≤ x.kind ∧ x.kind ≤ 3 := by
            unfold badA at h1
            refine ⟨fun a => ?_, ?_⟩
            · rw [dT a] at h1
              cases hx : decide (l - 1 < 0) <;> rw [hx] at h1 <;> cases h1
            · by_cases a : x.kind < 0
              · rw [dT a] at h1
                cases hx : decide (l - 1 < 0) <;> cases hy : decide (12 < d) <;> rw [hx, hy] at h1 <;> cases h1
              · by_cases b : 3 < x.kind
                · rw [dT b] at h1
                  cases hx : decide (l - 1 < 0) <;> cases hy : decide (12 < d) <;> cases hz : decide (x.kind < 0) <;> rw [hx, hy, hz] at h1 <;> cases h1
                · omega
          obtain ⟨m, rfl⟩ : ∃ m, n = m + 1 := ⟨n - 1, by omega⟩
          obtain ⟨q1, q2⟩ := kidsV_le (fun k l h => leftV_le (m + 1) k (d + 1) l h) x.kids (l - 1) h
          have hrec : ∀ y ∈ x.kids, kd m y = true := fun y hy => by
            obtain ⟨l', h4, h5⟩ := q2 y hy
            exact left_kd m y (d + 1) l' (by omega) h4
          have hB : (x.kind ≠ 3 → x.keys.length = 0) ∧ (x.kind < 2 → x.kids.length = 0) := by
            unfold badB at h2
            constructor
            · intro e
              by_cases a1 : (0 : Int) < (x.keys.length : Int)
              · rw [neT e, dT a1] at h2
                cases hx : (bif x.kind != 1 then decide ((0 : Int) < (x.text.length : Int)) else false) <;> rw [hx] at h2 <;> cases h2
              · omega
            · intro e
              by_cases a1 : (0 : Int) < (x.kids.length : Int)
              · rw [dT e, dT a1] at h2
                cases hx : (bif x.kind != 1 then decide ((0 : Int) < (x.text.length : Int)) else false) <;> cases hy : (bif x.kind != 3 then decide ((0 : Int) < (x.keys.length : Int)) else false) <;> rw [hx, hy] at h2 <;> cases h2
              · omega
          exact kd_iff.2 ⟨⟨hA.2, hB.1⟩, hB.2, hrec⟩
  termination_by n => n
theorem sameW_refl {f : Node → Node → Bool} : ∀ (l : List Node), (∀ x ∈ l, f x x = true) → sameW f l l = true
  | [], _ => rfl
  | a :: t, h => by
    unfold sameW
    rw [h a List.mem_cons_self, sameW_refl t fun x hx => h x (List.mem_cons_of_mem _ hx)]
    rfl
theorem same_refl : ∀ (n : Nat) (x : Node), dp n x = true → same n x x = true
  | 0, _, h => by cases h
  | n + 1, x, h => by
    unfold same
    rw [sameW_refl x.kids fun y hy => same_refl n y ((dp_iff.1 h).2 y hy)]
    simp
theorem wr_of : ∀ {d : Nat} {x : Node}, wf 200 d x = true → kd d x = true → wr d x
  | 0, _, h, _ => by cases h
  | d + 1, x, h, h' => by
    have a := wf_iff.1 h
    have b := kd_iff.1 h'
    refine ⟨a.1, a.2.1, fun e => ?_, a.2.2.2.1, a.2.2.2.2.1, fun y hy => wr_of (a.2.2.2.2.2 y hy) (b.2.2 y hy)⟩
    rcases e with e | e
    · rw [b.1.2 (by omega), b.2.1 (by omega)]
    · exact a.2.2.1 e
theorem small_wr {x : Node} {m : Int} (hm : m ≤ 200) (h : smallV x m = true) : wr 12 x := by
  have hw := small_wf hm h
  unfold smallV at h
  by_cases h0 : 0 ≤ leftV 13 x 1 m
  · exact wr_of hw (left_kd 12 x 1 m (by decide) h0)
  · rw [dF h0] at h; cases h
theorem small_len {x : Node} (h : smallV x 200 = true) : x.keys.length ≤ 199 := by
  unfold smallV at h
  by_cases h0 : 0 ≤ leftV 13 x 1 200
  · exact (wg_iff.1 (left_wg 12 x 1 200 199 (by decide) (by decide) h0)).1
  · rw [dF h0] at h; cases h
theorem wr_kid {d : Nat} {n : Node} (h : wr (d + 2) n) (i : Nat) : wr (d + 1) (n.kids.getD i (Df.d : Node)) := by
  rw [List.getD]
  cases e : n.kids[i]? with
  | none => exact ⟨Nat.zero_le _, Nat.zero_le _, (fun _ => rfl), Nat.zero_le _, (fun k hk => by cases hk), (fun y hy => by cases hy)⟩
  | some x => exact h.2.2.2.2.2 x (List.mem_of_getElem? e)
theorem wr_z {d : Nat} {n : Node} (h : wr (d + 1) n) : n.keys.length ≤ 200 ∧ (n.kind = 3 → n.keys.length = n.kids.length) ∧ TL n.keys := ⟨h.1, fun e => h.2.2.1 (.inr e), by unfold TL; exact h.2.2.2.2.1⟩
theorem wr_W1 {d : Nat} (hd : d ≤ 491) {n : Node} (h : wr d n) : W1 n := by
  unfold W1 W
  have := wr_deep (491 - d) h
  rwa [show d + (491 - d) = 491 by omega] at this
theorem wr_H1 {d : Nat} (hd : d ≤ 400) {n : Node} (h : wr (d + 2) n) : H1 n := by
  unfold H1
  exact ⟨wr_z h, fun i => wr_W1 (by omega) (wr_kid h i)⟩
theorem wr_H2 {d : Nat} (hd : d ≤ 399) {n : Node} (h : wr (d + 3) n) : H2 n := by
  unfold H2
  exact ⟨wr_z h, fun i => wr_H1 (d := d) (by omega) (wr_kid h i)⟩
theorem wr_H3 {d : Nat} (hd : d ≤ 398) {n : Node} (h : wr (d + 4) n) : H3 n := by
  unfold H3
  exact ⟨wr_z h, fun i => ⟨wr_W1 (by omega) (wr_kid h i), wr_H2 (d := d) (by omega) (wr_kid h i)⟩⟩
theorem wr_with {n v : Node} {k : List UInt8} (h3 : n.kind = 3) (hn : wr 12 n) (hv : wr 12 v) (hk : k.length ≤ 200) (hl : n.keys.length ≤ 199) : wr 13 (withV n k v) := by
  have hf := withV_fit (k := k) (v := v) (.inr h3) (hn.2.2.1 (.inr h3))
  have hl2 := hf.2.2.1
  have he := hf.2.1
  refine ⟨by omega, by omega, fun _ => he, ?_, fun s hs => ?_, fun y hy => ?_⟩
  · unfold withV
    rw [show (bif n.kind != 0 then n.kind != 3 else false) = false by rw [h3]; rfl]
    exact Nat.zero_le _
  · unfold withV at hs
    rw [show (bif n.kind != 0 then n.kind != 3 else false) = false by rw [h3]; rfl, cond_false] at hs
    rcases List.mem_append.1 hs with hs | hs
    · exact hn.2.2.2.2.1 s hs
    · unfold newK at hs
      cases hi : inV n.keys k with
      | true => rw [hi] at hs; cases hs
      | false => rw [hi] at hs; rw [show s = k by simpa using hs]; exact hk
  · rcases hf.2.2.2 y hy with rfl | hy
    · exact hv
    · exact wr_deep 1 (hn.2.2.2.2.2 y hy)
theorem G_same {d : Nat} (hd : d ≤ 1000) {x : Node} (h : G d x) : okS 1000 x x = true ∧ same 1000 x x = true := by
  unfold G at h
  have := wg_deep (1000 - d) h
  rw [show d + (1000 - d) = 1000 by omega] at this
  have := wg_dp (by decide) this
  exact ⟨by simp only [okS, this, Bool.and_self], same_refl 1000 x this⟩
theorem Z_some {α : Type} [Df α] {o : Option α} {Q : α → Prop} (h : Z o Q) : ∃ r, o = some r ∧ Q r := by
  obtain ⟨h1, h2⟩ := h
  obtain ⟨r, rfl⟩ := Option.isSome_iff_exists.1 h1
  exact ⟨r, rfl, h2⟩
theorem law_e (n v : Node) (key : List UInt8) : law_m n v key = some true := by
  unfold law_m
  rw [mu_e]
  simp only [law_t, etNode_eq, awake_t1, cl_some]
  rw [show okSm n (200 : Int) = true from rfl, show okSm v (100 : Int) = true from rfl]
  simp only [ck_true, Bool.true_or]
  cases h : (bif (bif (bif (!(smallV n (200 : Int))) then true else (!(smallV v (100 : Int)))) then true else (decide ((100 : Int) < (key.length : Int)))) then true else (n.kind != (3 : Int))) with
  | true => rfl
  | false =>
    rw [cond_false]
    obtain ⟨h1, h2, h3, h4⟩ : smallV n 200 = true ∧ smallV v 100 = true ∧ key.length ≤ 100 ∧ n.kind = 3 := by
      cases a1 : smallV n 200 <;> cases a2 : smallV v 100 <;> rw [a1, a2] at h <;> try (cases h)
      by_cases a3 : (100 : Int) < (key.length : Int)
      · rw [decide_eq_true a3] at h; cases h
      · rw [decide_eq_false a3] at h
        exact ⟨rfl, rfl, by omega, by simpa using h⟩
    have w1 := small_wr (by decide) h1
    have w2 := small_wr (by decide) h2
    have l1 := small_len h1
    have hk : ([120, 45] ++ key).length ≤ 102 := by simp; omega
    have hf : [120, 45].isPrefixOf ([120, 45] ++ key) = true := by rw [List.isPrefixOf_iff_prefix]; exact List.prefix_append _ _
    rw [show decide (([120, 45] : List UInt8).length + key.length ≤ maxStr) = true from decide_eq_true (by show 2 + key.length ≤ _; unfold maxStr; omega), ck_true]
    generalize hkk : ([120, 45] : List UInt8) ++ key = k at *
    rw [show okWi n k v = true from okWi_iff.2 ⟨by omega, w1.2.2.1 (.inr h4)⟩, ck_true]
    have w3 := wr_with (k := k) h4 w1 w2 (by omega) l1
    cases rightB (withV n k v) with
    | false => rfl
    | true =>
      rw [Bool.not_true, cond_false]
      have a1 := wr_H1 (d := 10) (by decide) w1
      have a2 := wr_H3 (d := 8) (by decide) w1
      rw [service_e hf h4 a1 (wr_H1 (d := 11) (by decide) w3), file_e hf h4 a2 (wr_H3 (d := 9) (by decide) w3)]
      obtain ⟨r, hr, b1, _⟩ := Z_some (schema_Service_z n a1)
      obtain ⟨q, hq, b2⟩ := Z_some (schema_File_z n a2)
      rw [hr, hq]
      obtain ⟨c1, c2⟩ := G_same (by decide) b1
      obtain ⟨c3, c4⟩ := G_same (by decide) b2
      simp only [cl_some, c1, c2, c3, c4, ck_true, cond_true, beq_self_eq_true, Option.isSome_some, Bool.true_or]
      rfl
def done_W : FnW E := fnG (E := E) [.api_Node, .api_Node, .str] [.bool] fun _ => some true
theorem done_ok : FnOk E 3 done_W := by
  have h := law_ok
  unfold law_W at h
  have e : (fun a : Args E [.api_Node, .api_Node, .str] => (law_m a.1 a.2.1 a.2.2 : Option (Args E [.bool]))) = fun _ => some true := funext fun a => law_e a.1 a.2.1 a.2.2
  rw [e] at h
  exact h
end
end Go.Proofs.YtiahkjjfhnfdiaaGreatDoor.Rf
namespace Go.Proofs.YtiahkjjfhnfdiaaGreatDoor.Mir
open Go Go.RowKit Go.Deep
noncomputable section
def below (w : World) : Nat → Nat → Prop := fun k _ => k < w.heap.size
section
variable {P : Program} {E : Env P}
def Opens (E : Env P) (T : TypeId) (R : List (DVal E.Den) → Prop) : Prop :=
  ∀ {H : Type} (enc : TypeId × Value → H) (w : World) (base : Nat) (spare : Nat → Bool) (held : Bool) (fuel : Nat) (cs : List Value) (x : DataW H × List MemPlace), DataW.trod enc P w base spare held fuel T cs = some x →
    ∃ ds, R ds ∧ cs.length = ds.length ∧ ∀ (j : Nat) v d, cs[j]? = some v → ds[j]? = some d → DRep E w (below w) v d
def OpensT (E : Env P) (t : E.Ty) : Prop := Opens E (E.tid t) fun ds => ∃ x, ds = E.cells t x
theorem one_cell {w : World} {v : Value} {d : DVal E.Den} (h : DRep E w (below w) v d) : ∀ (j : Nat) u e, [v][j]? = some u → [d][j]? = some e → DRep E w (below w) u e := by
  intro j u e hu he
  cases j with
  | zero => simp at hu he; subst hu; subst he; exact h
  | succ j => simp at hu
theorem opens_int {T : TypeId} {k : IntKind} (hT : P.underlying T = some (.int k)) : Opens E T fun ds => ∃ n, ds = [.int k n] := by
  intro H enc w base spare held fuel cs x h
  obtain ⟨n, rfl, _, _⟩ := DataW.trod_int hT h
  exact ⟨[.int k n], ⟨n, rfl⟩, rfl, one_cell (.int k n)⟩
theorem opens_str {T : TypeId} (hT : P.underlying T = some .string) : Opens E T fun ds => ∃ s : List UInt8, ds = [.str s] ∧ s.length ≤ maxLen := by
  intro H enc w base spare held fuel cs x h
  obtain ⟨s, rfl, _, hs⟩ := DataW.trod_string hT h
  refine ⟨[.str s.data.toList], ⟨_, rfl, by rw [Array.length_toList]; exact hs⟩, rfl, one_cell ?_⟩
  have := DRep.str (E := E) (w := w) (ro := below w) s.data.toList
  simpa using this
theorem cell_in {w : World} {a : Addr} {u : Value} (h : w.cell? a = some u) : a.block < w.heap.size := by
  rcases Nat.lt_or_ge a.block w.heap.size with hl | hl
  · exact hl
  · unfold World.cell? at h
    rw [Array.getElem?_eq_none hl] at h
    cases h
theorem opens_slice {T : TypeId} {t : E.Ty} (hT : P.underlying T = some (.slice (E.tid t))) (ht : OpensT E t) (hC : P.cellsOf (E.tid t) = E.size t) : Opens E T fun ds => ∃ l, ds = [.slice t l] := by
  intro H enc w base spare held fuel cs x h
  rcases open_slice hT h with ⟨rfl, _⟩ | ⟨a, len, cap, m, n, D, Pl, rfl, hb, hl, hm, hmm, hx, hi⟩
  · exact ⟨[.slice t []], ⟨[], rfl⟩, rfl, one_cell (.nil t none 0)⟩
  · have hle : len ≤ m := by rw [hmm]; split <;> omega
    have hpos := E.size_pos t
    have key : ∀ i, i < len → ∃ x : E.Den t, ∀ (j : Nat) c, (E.cells t x)[j]? = some c → ∃ u, w.cell? (a.add (i * E.size t + j)) = some u ∧ DRep E w (below w) u c := by
      intro i hil
      obtain ⟨cs', hc, htr⟩ := hi i (by omega)
      rw [hC] at hc
      obtain ⟨ds, ⟨y, rfl⟩, hlen, hd⟩ := ht enc w base spare held n cs' _ htr
      obtain ⟨_, hcl, hat⟩ := World.cells?_some hc
      refine ⟨y, fun j c hj => ?_⟩
      have hjl : j < E.size t := by rw [← E.cells_len t y]; exact (List.getElem?_eq_some_iff.1 hj).1
      have hcj := hat j hjl
      have hv : cs'[j]? = some (cs'[j]'(by omega)) := List.getElem?_eq_getElem (by omega)
      refine ⟨_, ?_, hd j _ c hv hj⟩
      rw [← Go.Deep.add_add, hcj, hv]
    let pick : Nat → E.Den t := fun i => if hil : i < len then Classical.choose (key i hil) else E.dflt t
    have hpick : ∀ i, i < len → ∀ (j : Nat) c, (E.cells t (pick i))[j]? = some c → ∃ u, w.cell? (a.add (i * E.size t + j)) = some u ∧ DRep E w (below w) u c := by
      intro i hil
      have := Classical.choose_spec (key i hil)
      simpa only [pick, dif_pos hil] using this
    refine ⟨[.slice t ((List.range len).map pick)], ⟨_, rfl⟩, rfl, one_cell ?_⟩
    by_cases h0 : len = 0
    · subst h0
      exact .nil t _ _
    · obtain ⟨g, off, spot⟩ := a
      have hsp : spot = none := by
        have hc0 : 0 < (E.cells t (pick 0)).length := by rw [E.cells_len]; exact hpos
        obtain ⟨u, hu, _⟩ := hpick 0 (by omega) 0 _ (List.getElem?_eq_getElem hc0)
        have := World.cell?_spot hu
        unfold Addr.add at this
        split at this
        · simpa using this
        · rename_i hne; exact absurd (by simp) hne
      subst hsp
      have hlen : ((List.range len).map pick).length = len := by simp
      have at_ : ∀ i x j c, ((List.range len).map pick)[i]? = some x → (E.cells t x)[j]? = some c → ∃ u, w.cell? ⟨g, off + i * E.size t + j, none⟩ = some u ∧ DRep E w (below w) u c := by
        intro i x j c hix hj
        have hil : i < len := by have := (List.getElem?_eq_some_iff.1 hix).1; simpa using this
        have hx' : x = pick i := by simp [hil] at hix; exact hix.symm
        subst hx'
        obtain ⟨u, hu, hd⟩ := hpick i hil j c hj
        rw [show (⟨g, off, none⟩ : Addr).add (i * E.size t + j) = ⟨g, off + (i * E.size t + j), none⟩ from by unfold Addr.add; split <;> simp_all] at hu
        rw [← Nat.add_assoc] at hu
        exact ⟨u, hu, hd⟩
      have := DRep.slice (E := E) (w := w) (ro := below w) t ((List.range len).map pick) g off cap (fun i j => (w.cell? ⟨g, off + i * E.size t + j, none⟩).getD undef) (by rw [hlen]; exact hl)
        (fun i x j c hix hj => by
          obtain ⟨u, hu, _⟩ := at_ i x j c hix hj
          exact ⟨cell_in hu, by rw [hu]; rfl⟩)
        (fun i x j c hix hj => by
          obtain ⟨u, hu, hd⟩ := at_ i x j c hix hj
          simp only [hu, Option.getD_some]
          exact hd)
      rw [hlen] at this
      exact this
def RAll : List (List (DVal E.Den) → Prop) → List (DVal E.Den) → Prop
  | [], ds => ds = []
  | R :: Rs, ds => ∃ a b, R a ∧ ds = a ++ b ∧ RAll Rs b
theorem Opens.mono {T : TypeId} {R R' : List (DVal E.Den) → Prop} (h : Opens E T R) (hR : ∀ ds, R ds → R' ds) : Opens E T R' := by
  intro H enc w base spare held fuel cs x hx
  obtain ⟨ds, h1, h2⟩ := h enc w base spare held fuel cs x hx
  exact ⟨ds, hR ds h1, h2⟩
theorem arg_rep {H : Type} {enc : TypeId × Value → H} {w : World} {base : Nat} {spare : Nat → Bool} {held : Bool} {t : E.Ty} (ho : OpensT E t) {v : Value} {d : DataW H} {p : List MemPlace} (hsh : (E.agg t = true ∧ ∃ vs, v = .agg vs) ∨ (E.agg t = false ∧ v.cells = #[v]))
    (h : DataW.Trod enc P w base spare held (E.tid t) v d p) : ∃ x, TRep E w (below w) v t x := by
  obtain ⟨fuel, h⟩ := h
  obtain ⟨ds, ⟨x, rfl⟩, hl, hd⟩ := ho enc w base spare held fuel _ _ h
  refine ⟨x, ?_⟩
  rcases hsh with ⟨ha, vs, rfl⟩ | ⟨ha, hv⟩
  · exact .inl ⟨ha, vs, rfl, by simpa [Value.cells] using hl, fun j u e hu he => hd j u e (by simpa [Value.cells] using hu) he⟩
  · rw [hv] at hl hd
    obtain ⟨c, hc⟩ := single_of_len ((E.cells_len t x).trans (E.one t ha))
    refine .inr ⟨ha, c, hc, hd 0 v c rfl (by rw [hc]; rfl)⟩
end
end
end Go.Proofs.YtiahkjjfhnfdiaaGreatDoor.Mir
namespace Go.Proofs.YtiahkjjfhnfdiaaGreatDoor.Mir
open Go Go.RowKit Go.Deep
noncomputable section
section
variable {P : Program} {E : Env P}
def OpensB (E : Env P) (b : Nat) (T : TypeId) (R : List (DVal E.Den) → Prop) : Prop :=
  ∀ {H : Type} (enc : TypeId × Value → H) (w : World) (base : Nat) (spare : Nat → Bool) (held : Bool) (fuel : Nat) (cs : List Value) (x : DataW H × List MemPlace), fuel < b → DataW.trod enc P w base spare held fuel T cs = some x →
    ∃ ds, R ds ∧ cs.length = ds.length ∧ ∀ (j : Nat) v d, cs[j]? = some v → ds[j]? = some d → DRep E w (below w) v d
theorem opensB_all {T : TypeId} {R : List (DVal E.Den) → Prop} (h : ∀ b, OpensB E b T R) : Opens E T R := fun enc w base spare held fuel cs x hx => h (fuel + 1) enc w base spare held fuel cs x (Nat.lt_succ_self _) hx
theorem opensB_of {b : Nat} {T : TypeId} {R : List (DVal E.Den) → Prop} (h : Opens E T R) : OpensB E b T R := fun enc w base spare held fuel cs x _ hx => h enc w base spare held fuel cs x hx
theorem opensB_zero {T : TypeId} {R : List (DVal E.Den) → Prop} : OpensB E 0 T R := fun _ _ _ _ _ _ _ _ hx _ => absurd hx (Nat.not_lt_zero _)
theorem OpensB.mono {b : Nat} {T : TypeId} {R R' : List (DVal E.Den) → Prop} (h : OpensB E b T R) (hR : ∀ ds, R ds → R' ds) : OpensB E b T R' := fun enc w base spare held fuel cs x hfb hx => by
  obtain ⟨ds, h1, h2⟩ := h enc w base spare held fuel cs x hfb hx
  exact ⟨ds, hR ds h1, h2⟩
theorem opensB_slice {b : Nat} {T : TypeId} {t : E.Ty} (hT : P.underlying T = some (.slice (E.tid t))) (ht : OpensB E b (E.tid t) fun ds => ∃ x, ds = E.cells t x) (hC : P.cellsOf (E.tid t) = E.size t) : OpensB E b T fun ds => ∃ l, ds = [.slice t l] := by
  intro H enc w base spare held fuel cs x hfb h
  rcases DataW.trod_slice hT h with ⟨rfl, _⟩ | ⟨a, len, cap, elems, rest, n, hfu, rfl, hx, hb, hl, hm, hlen0, hel, _, _⟩
  · exact ⟨[.slice t []], ⟨[], rfl⟩, rfl, one_cell (.nil t none 0)⟩
  · have hpos := E.size_pos t
    have key : ∀ i, i < len → ∃ x : E.Den t, ∀ (j : Nat) c, (E.cells t x)[j]? = some c → ∃ u, w.cell? (a.add (i * E.size t + j)) = some u ∧ DRep E w (below w) u c := by
      intro i hil
      have hei := hel i hil
      rw [List.getElem?_eq_getElem (show i < elems.length by omega)] at hei
      obtain ⟨cs', hc, htr⟩ := Option.bind_eq_some_iff.1 hei
      rw [hC] at hc
      obtain ⟨ds, ⟨y, rfl⟩, hlen, hd⟩ := ht enc w base spare held n cs' _ (by omega) htr
      obtain ⟨_, hcl, hat⟩ := World.cells?_some hc
      refine ⟨y, fun j c hj => ?_⟩
      have hjl : j < E.size t := by rw [← E.cells_len t y]; exact (List.getElem?_eq_some_iff.1 hj).1
      have hcj := hat j hjl
      have hv : cs'[j]? = some (cs'[j]'(by omega)) := List.getElem?_eq_getElem (by omega)
      refine ⟨_, ?_, hd j _ c hv hj⟩
      rw [← Go.Deep.add_add, hcj, hv]
    let pick : Nat → E.Den t := fun i => if hil : i < len then Classical.choose (key i hil) else E.dflt t
    have hpick : ∀ i, i < len → ∀ (j : Nat) c, (E.cells t (pick i))[j]? = some c → ∃ u, w.cell? (a.add (i * E.size t + j)) = some u ∧ DRep E w (below w) u c := by
      intro i hil
      have := Classical.choose_spec (key i hil)
      simpa only [pick, dif_pos hil] using this
    refine ⟨[.slice t ((List.range len).map pick)], ⟨_, rfl⟩, rfl, one_cell ?_⟩
    by_cases h0 : len = 0
    · subst h0
      exact .nil t _ _
    · obtain ⟨g, off, spot⟩ := a
      have hsp : spot = none := by
        have hc0 : 0 < (E.cells t (pick 0)).length := by rw [E.cells_len]; exact hpos
        obtain ⟨u, hu, _⟩ := hpick 0 (by omega) 0 _ (List.getElem?_eq_getElem hc0)
        have := World.cell?_spot hu
        unfold Addr.add at this
        split at this
        · simpa using this
        · rename_i hne; exact absurd (by simp) hne
      subst hsp
      have hlen : ((List.range len).map pick).length = len := by simp
      have at_ : ∀ i x j c, ((List.range len).map pick)[i]? = some x → (E.cells t x)[j]? = some c → ∃ u, w.cell? ⟨g, off + i * E.size t + j, none⟩ = some u ∧ DRep E w (below w) u c := by
        intro i x j c hix hj
        have hil : i < len := by have := (List.getElem?_eq_some_iff.1 hix).1; simpa using this
        have hx' : x = pick i := by simp [hil] at hix; exact hix.symm
        subst hx'
        obtain ⟨u, hu, hd⟩ := hpick i hil j c hj
        rw [show (⟨g, off, none⟩ : Addr).add (i * E.size t + j) = ⟨g, off + (i * E.size t + j), none⟩ from by unfold Addr.add; split <;> simp_all] at hu
        rw [← Nat.add_assoc] at hu
        exact ⟨u, hu, hd⟩
      have := DRep.slice (E := E) (w := w) (ro := below w) t ((List.range len).map pick) g off cap (fun i j => (w.cell? ⟨g, off + i * E.size t + j, none⟩).getD undef) (by rw [hlen]; exact hl)
        (fun i x j c hix hj => by
          obtain ⟨u, hu, _⟩ := at_ i x j c hix hj
          exact ⟨cell_in hu, by rw [hu]; rfl⟩)
        (fun i x j c hix hj => by
          obtain ⟨u, hu, hd⟩ := at_ i x j c hix hj
          simp only [hu, Option.getD_some]
          exact hd)
      rw [hlen] at this
      exact this
def FOpensB (E : Env P) (b n : Nat) : Nat → List Field → List (List (DVal E.Den) → Prop) → Prop
  | off, [], [] => off = n
  | off, f :: fs, R :: Rs => f.offset = off ∧ OpensB E b f.type R ∧ FOpensB E b n (off + P.cellsOf f.type) fs Rs
  | _, _, _ => False
theorem fopensB_sound {H : Type} {enc : TypeId × Value → H} {w : World} {base : Nat} {spare : Nat → Bool} {held : Bool} {b n fuel : Nat} {cs : List Value} (hfb : fuel < b) (hn : cs.length = n) : ∀ (fl : List Field) (Rs : List (List (DVal E.Den) → Prop)) (off : Nat), FOpensB E b n off fl Rs →
    (∀ f ∈ fl, ∃ y, DataW.trod enc P w base spare held fuel f.type ((cs.drop f.offset).take (P.cellsOf f.type)) = some y) →
    ∃ ds, RAll Rs ds ∧ (cs.drop off).length = ds.length ∧ ∀ (j : Nat) v d, (cs.drop off)[j]? = some v → ds[j]? = some d → DRep E w (below w) v d
  | [], [], off, h, _ => by
    have h : off = n := h
    subst h
    exact ⟨[], rfl, by simp [hn], fun j v d _ hd => by simp at hd⟩
  | f :: fl, R :: Rs, off, h, hf => by
    obtain ⟨ho, hR, hrest⟩ := h
    subst ho
    obtain ⟨y, hy⟩ := hf f List.mem_cons_self
    obtain ⟨d1, hR1, hl1, hd1⟩ := hR enc w base spare held fuel _ _ hfb hy
    obtain ⟨d2, hR2, hl2, hd2⟩ := fopensB_sound hfb hn fl Rs _ hrest fun g hg => hf g (List.mem_cons_of_mem _ hg)
    rw [← List.drop_drop] at hl2 hd2
    generalize hA : (cs.drop f.offset).take (P.cellsOf f.type) = A at *
    generalize hB : (cs.drop f.offset).drop (P.cellsOf f.type) = B at *
    have hsplit : cs.drop f.offset = A ++ B := by rw [← hA, ← hB, List.take_append_drop]
    refine ⟨d1 ++ d2, ⟨d1, d2, hR1, rfl, hR2⟩, by rw [hsplit, List.length_append, List.length_append, hl1, hl2], fun j v d hv hd => ?_⟩
    rw [hsplit] at hv
    rcases Nat.lt_or_ge j d1.length with hj | hj
    · rw [List.getElem?_append_left (by omega)] at hv
      rw [List.getElem?_append_left hj] at hd
      exact hd1 j v d hv hd
    · rw [List.getElem?_append_right (by omega), hl1] at hv
      rw [List.getElem?_append_right hj] at hd
      exact hd2 _ v d hv hd
  | [], _ :: _, _, h, _ => h.elim
  | _ :: _, [], _, h, _ => h.elim
theorem opensB_struct {b : Nat} {T : TypeId} {fs : Array Field} {Rs : List (List (DVal E.Den) → Prop)} (hT : P.underlying T = some (.struct fs)) (hF : FOpensB E b (P.cellsOf T) 0 fs.toList Rs) : OpensB E (b + 1) T (RAll Rs) := by
  intro H enc w base spare held fuel cs x hfb h
  obtain ⟨xs, n, rfl, rfl, hl, hlen, hf⟩ := DataW.trod_struct hT h
  obtain ⟨ds, h1, h2, h3⟩ := fopensB_sound (enc := enc) (w := w) (base := base) (spare := spare) (held := held) (fuel := n) (by omega) hl fs.toList Rs 0 hF (fun f hf' => by
    obtain ⟨i, hi⟩ := List.getElem?_of_mem hf'
    have hi' : fs[i]? = some f := by simpa using hi
    have hlt : i < xs.length := by rw [hlen]; exact (Array.getElem?_eq_some_iff.1 hi').1
    exact ⟨xs[i], by rw [hf i f hi', List.getElem?_eq_getElem hlt]⟩)
  exact ⟨ds, h1, by simpa using h2, by simpa using h3⟩
end
end
end Go.Proofs.YtiahkjjfhnfdiaaGreatDoor.Mir
namespace Go.Proofs.YtiahkjjfhnfdiaaGreatDoor.Rf
open Go Go.ChangeShapes Go.WideShapes Go.ChangeAt Go.RowKit Go.Proofs.YtiahkjjfhnfdiaaGreatDoor.Mir
theorem opn_int : OpensT E .int := Opens.mono (E := E) (opens_int (T := 3) (k := .i64) (by kernel_rfl)) fun _ ⟨n, h⟩ => ⟨n, h⟩
theorem opn_str : OpensT E .str := Opens.mono (E := E) (opens_str (T := 9) (by kernel_rfl)) fun _ ⟨n, h, _⟩ => ⟨n, h⟩
theorem opn_l_str : OpensT E .l_str := Opens.mono (E := E) (opens_slice (E := E) (T := 22) (t := .str) (by kernel_rfl) opn_str (by kernel_rfl)) fun _ ⟨l, h⟩ => ⟨l, h⟩
set_option maxRecDepth 100000 in
theorem opn_api_Node : OpensT E .api_Node := opensB_all fun b => by
  induction b with
  | zero => exact opensB_zero
  | succ b ih => exact OpensB.mono (E := E) (opensB_struct (E := E) (Rs := [(fun ds => ∃ x, ds = E.cells .int x), (fun ds => ∃ x, ds = E.cells .str x), (fun ds => ∃ x, ds = E.cells .l_str x), (fun ds => ∃ x, ds = E.cells .l_api_Node x)]) Tryz.underlying25 ⟨by kernel_rfl, opensB_of opn_int, by kernel_rfl, opensB_of opn_str, by kernel_rfl, opensB_of opn_l_str, by kernel_rfl, OpensB.mono (opensB_slice (E := E) (T := 23) (t := .api_Node) (by kernel_rfl) ih (by kernel_rfl)) fun _ ⟨l, h⟩ => ⟨l, h⟩, (by kernel_rfl : 0 + Tryz.prog.cellsOf 3 + Tryz.prog.cellsOf 9 + Tryz.prog.cellsOf 22 + Tryz.prog.cellsOf 23 = Tryz.prog.cellsOf 25)⟩) fun _ ⟨_, _, ⟨x0, h0⟩, g0, _, _, ⟨x1, h1⟩, g1, _, _, ⟨x2, h2⟩, g2, _, _, ⟨x3, h3⟩, g3, g4⟩ => ⟨(⟨x0, x1, x2, x3⟩ : Node), by rw [g0, h0, g1, h1, g2, h2, g3, h3, g4]; rfl⟩
theorem own : ownKnob Tryz.prog.godebug = none := by kernel_rfl
theorem laidOut : laidOutB Tryz.prog = true := by kernel_rfl
theorem ret_bool {w : World} {ro : Nat → Nat → Prop} {v : Value} {b : Bool} (h : RetRep E w ro v [⟨.bool, b⟩]) : v = .bool b := by
  rcases h with ⟨ha, _⟩ | ⟨_, c, hc, hd⟩
  · cases ha
  · have e : c = .bool b := by
      have : ([.bool b] : List (DVal E.Den)) = [c] := hc
      simpa using this.symm
    subst e
    cases hd
    rfl
set_option maxRecDepth 100000 in
theorem lifted (os : Os) (started : os.Started) (H : Type) (enc : TypeId × Value → H) :
    ReturnsInHanded {} Tryz.checked os 3 .any (fun w args => (Rows.schemaForeignSpec.pre enc Tryz.prog Tryz.f3 Rows.schemaForeignRow.domain false w args ∧ laidMetH Tryz.prog Rows.schemaForeignRow.laid w) ∧ sizedMet enc Tryz.prog Tryz.f3 (OpenSpec.ofChange Rows.schemaForeignSpec) false w args) (Rows.schemaForeignSpec.post enc Tryz.prog Tryz.f3 false true false false) := by
  refine returnsInHanded_of_change_and (C := Tryz.checked) (X := fun w _ => laidMetH Tryz.prog Rows.schemaForeignRow.laid w) (fun _ _ _ hh h => h.of_heap hh) own started (by kernel_rfl) Tryz.func3
    (ChangeSpec.witness_shaped (enc := enc) (C := Tryz.checked) (os := os) (X := fun w _ => laidMetH Tryz.prog Rows.schemaForeignRow.laid w) false (World.laidAll Tryz.prog os Rows.schemaForeignRow.laid) #[.agg #[.int .i64 0, .string ⟨#[]⟩, .slice none 0 0, .slice none 0 0], .agg #[.int .i64 0, .string ⟨#[]⟩, .slice none 0 0, .slice none 0 0], .string ⟨#[]⟩] 8 (World.laidAll_os _ _ _)
      (World.shaped_of_ZipB (by kernel_rfl) (by kernel_rfl)) (by kernel_rfl) (by kernel_rfl) (by kernel_rfl)
      (by rw [MakeChecks.laidMetH_plain _ _ _ (by kernel_rfl)]; exact laidMet_laidAll _ (by kernel_rfl) (by kernel_rfl))) ?_
  intro W base args ds gs before hval0 hW _ _ hL _
  have hval : ∀ (j : Nat) t v, Tryz.f3.params[j]? = some t → args[j]? = some v → Value.okWide Tryz.prog W .any base t v := hval0
  have hW' := hW
  obtain ⟨p, q, hA0, hV, rfl, hfz, hnd⟩ := hW
  have hA : DataW.TrodAll enc Tryz.prog W 0 (fun _ => true) true Tryz.f3.params.toList args.toList ds p := hA0
  rw [Tryz.params3] at hA hval
  obtain ⟨v0, vs0, d0, ds0, p0, q0, hargs, rfl, rfl, h0, r0⟩ := trodAll_cons hA
  obtain ⟨v1, vs1, d1, ds1, p1, q1, rfl, rfl, rfl, h1, r1⟩ := trodAll_cons r0
  obtain ⟨v2, vs2, d2, ds2, p2, q2, rfl, rfl, rfl, h2, r2⟩ := trodAll_cons r1
  obtain ⟨rfl, rfl, rfl⟩ := trodAll_nil r2
  obtain rfl : args = #[v0, v1, v2] := by cases args; simp_all
  obtain ⟨rfl, rfl⟩ := trodVars_none hV
  obtain ⟨cs0, rfl, _⟩ := okWide_struct Tryz.underlying25 (hval 0 25 v0 rfl rfl)
  obtain ⟨cs1, rfl, _⟩ := okWide_struct Tryz.underlying25 (hval 1 25 v1 rfl rfl)
  obtain ⟨s2, rfl⟩ := okWide_string Tryz.underlying9 (hval 2 9 v2 rfl rfl)
  have lt0 : ∀ x ∈ p0, x.block < W.heap.size := by obtain ⟨m, hm⟩ := h0; exact DataW.trod_lt m _ _ _ hm
  have lt1 : ∀ x ∈ p1, x.block < W.heap.size := by obtain ⟨m, hm⟩ := h1; exact DataW.trod_lt m _ _ _ hm
  have lt2 : ∀ x ∈ p2, x.block < W.heap.size := by obtain ⟨m, hm⟩ := h2; exact DataW.trod_lt m _ _ _ hm
  obtain ⟨x0, t0⟩ := arg_rep (E := E) (t := .api_Node) opn_api_Node (.inl ⟨rfl, _, rfl⟩) h0
  obtain ⟨x1, t1⟩ := arg_rep (E := E) (t := .api_Node) opn_api_Node (.inl ⟨rfl, _, rfl⟩) h1
  obtain ⟨x2, t2⟩ := arg_rep (E := E) (t := .str) opn_str (.inr ⟨rfl, rfl⟩) h2
  clear hA0 hval0
  refine (done_ok.2 [⟨.api_Node, x0⟩, ⟨.api_Node, x1⟩, ⟨.str, x2⟩] [⟨.bool, true⟩] rfl W (below W) [_, _, _] ⟨t0, t1, t2, trivial⟩ (fun _ _ h => h)).mono fun e W' ⟨v, he, bel, hret⟩ => ?_
  have hv := ret_bool hret
  subst hv
  subst he
  exact ⟨_, rfl, _, _, _, [], _, [], hW', trodAll_mk1 (shut_bool Tryz.underlying4 _),
    (trodAll_cons_mk (Below.trod laidOut (by kernel_rfl) (of_decide_eq_true (by kernel_rfl)) h0 bel lt0) (trodAll_cons_mk (Below.trod laidOut (by kernel_rfl) (of_decide_eq_true (by kernel_rfl)) h1 bel lt1) (trodAll_cons_mk (Below.trod laidOut (by kernel_rfl) (of_decide_eq_true (by kernel_rfl)) h2 bel lt2) trodAll_mk0))), rfl, bel.frame _, fun h => by cases h⟩
theorem over : Rows.schemaForeignRow.holds Tryz.pinned (OpenSpec.ofChange Rows.schemaForeignSpec) :=
  OpenClaim.holds_of_wide 3 Tryz.f3 rfl rfl rfl rfl rfl rfl rfl ⟨rfl, rfl, rfl, rfl, rfl⟩ rfl rfl rfl rfl rfl (by kernel_rfl) Tryz.func3 (by kernel_rfl)
    (of_decide_eq_true (by kernel_rfl)) (by unfold Func.isWrapper; first | (rw [if_pos (by decide +kernel)]; kernel_rfl) | (rw [if_neg (by decide +kernel)]; exact ⟨rfl, rfl⟩))
    (fun os started H enc _ => lifted os started H enc)
theorem schemaForeign_proved : Rows.SchemaForeignCardSaid :=
  Claim7.holds_tied_plain_at .later [] [.data, .pinned] true (true, "852ff4ce016fe517d075d478bd4017164af4699298b4493339bcc860f2364857") false over (fun _ h => by cases h) (by kernel_rfl) (fun _ h => by cases h) schemaForeign_row_tie rfl ⟨rfl, rfl⟩ (by kernel_rfl) rfl
    (fun f fn hf hfn => by
      obtain rfl : f = 3 := Option.some.inj ((show Tryz.prog.funcNamed "longshore/longshorelaw19.SchemaForeign" = some 3 by kernel_rfl).symm.trans hf) |>.symm
      obtain rfl : fn = Tryz.f3 := (Option.some.inj (Tryz.func3.symm.trans hfn)).symm
      exact ⟨by kernel_rfl, fun j t ht => by
        rw [Tryz.params3] at ht
        have hm : t ∈ [25, 25, 9] := by simpa using Array.mem_of_getElem? ht
        have hall : ([25, 25, 9].all fun u => !Tryz.prog.wantsStandIn u) = true := by kernel_rfl
        exact (show Tryz.prog.wantsStandIn t = false by simpa using List.all_eq_true.1 hall t hm)⟩)
    (by kernel_rfl)
#print axioms schemaForeign_proved
end Go.Proofs.YtiahkjjfhnfdiaaGreatDoor.Rf
