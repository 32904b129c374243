/- The law of overlaid nodes: the reference's functions, and where two nodes differ, by the Mirror. -/
import Derived.Test.YtnbohemhgbkdlaaBlend
import Derived.Sort.Walk0
namespace Go.Proofs.Ytnbohemhgbkdlaa.Bl
open Go Go.RowKit Go.Sort Go.Proofs.Ytnbohemhgbkdlaa.Mir
/-! ### The reference's lists of texts (02) -/
def lastLt (out : List (List UInt8)) (x : List UInt8) : Bool := match out.getLast? with
  | none => true
  | some z => decide (z < x)
theorem last_at (out : List (List UInt8)) (z : List UInt8) (hl : out.length ≤ 1000000) : List.getD (out ++ [z]) (Int.toNat (w64 ((((out ++ [z]).length : Nat) : Int) - 1))) (dflt .str) = z := by
  rw [List.length_append, List.length_singleton, w64_id (by omega) (by omega), show (((out.length + 1 : Nat) : Int) - 1) = (out.length : Int) from by omega, gd _ _ out.length (by simp)]
  simp
theorem cExpr (out : List (List UInt8)) (x : List UInt8) (hl : out.length ≤ 1000000) :
    (bif (((out.length : Nat) : Int) == (0 : Int)) then true else (!(Op.bytesLess x (List.getD out (Int.toNat (w64 (((out.length : Nat) : Int) - 1))) (dflt .str)) || x == (List.getD out (Int.toNat (w64 (((out.length : Nat) : Int) - 1))) (dflt .str))))) = lastLt out x := by
  rcases List.eq_nil_or_concat out with rfl | ⟨o, z, rfl⟩
  · rfl
  · rw [List.concat_eq_append] at hl ⊢
    rw [last_at o z (by simp at hl; omega), eqF (by simp; omega), cond_false, Go.Proofs.bytesLess_eq]
    unfold lastLt
    rw [List.getLast?_concat]
    simp only
    rcases Pl.s_tri z x with h | h | h
    · have h1 : ¬ x < z := Pl.s_asymm h
      have h2 : x ≠ z := fun e => by subst e; exact Pl.s_irrefl _ h
      simp [h, h1, h2]
    · subst h
      simp [Pl.s_irrefl]
    · have h1 : ¬ z < x := Pl.s_asymm h
      simp [h, h1]
theorem okLast (out : List (List UInt8)) (hl : out.length ≤ 1000000) : ((decide ((0 : Int) ≤ (w64 (((out.length : Nat) : Int) - 1))) && decide ((w64 (((out.length : Nat) : Int) - 1)) < (out.length : Nat))) || !(!(((out.length : Nat) : Int) == (0 : Int)))) = true := by
  by_cases h : out.length = 0
  · rw [h]; rfl
  · rw [w64_id (by omega) (by omega), dT (by omega), dT (by omega)]; rfl
/-- What has been found so far is in order, of the list, and nothing between is left out. -/
structure Pre (l out : List (List UInt8)) : Prop where
  ss : Pl.SS out
  sub : ∀ x ∈ out, x ∈ l
  low : ∀ y ∈ l, y ∉ out → ∀ x ∈ out, x < y
theorem Pre.last {l out : List (List UInt8)} (h : Pre l out) {x : List UInt8} (hx : x ∈ l) : lastLt out x = true ↔ x ∉ out := by
  unfold lastLt
  rcases List.eq_nil_or_concat out with rfl | ⟨o, z, rfl⟩
  · simp
  · rw [List.concat_eq_append] at h ⊢
    rw [List.getLast?_concat]
    simp only [decide_eq_true_eq]
    constructor
    · intro hz hm
      have hs := h.ss
      unfold Pl.SS at hs
      rw [List.pairwise_append] at hs
      rcases List.mem_append.1 hm with hm | hm
      · exact Pl.s_asymm hz (hs.2.2 x hm z (by simp))
      · have : x = z := by simpa using hm
        subst this
        exact Pl.s_irrefl _ hz
    · exact fun hn => h.low x hx hn z (by simp)
def lack (l out : List (List UInt8)) : Nat := l.countP fun x => !decide (x ∈ out)
theorem lack_step (out : List (List UInt8)) (z : List UInt8) (hz : z ∉ out) : ∀ (l : List (List UInt8)), lack l (out ++ [z]) ≤ lack l out ∧ (z ∈ l → lack l (out ++ [z]) + 1 ≤ lack l out)
  | [] => ⟨Nat.le_refl _, fun h => by cases h⟩
  | a :: t => by
    obtain ⟨h1, h2⟩ := lack_step out z hz t
    unfold lack at *
    simp only [List.countP_cons]
    by_cases e : a = z
    · subst e
      have k1 : (!decide (a ∈ out ++ [a])) = false := by simp
      have k2 : (!decide (a ∈ out)) = true := by simpa using hz
      rw [k1, k2]
      simp only [Bool.false_eq_true, if_false, if_true]
      exact ⟨by omega, fun _ => by omega⟩
    · have k : (!decide (a ∈ out ++ [z])) = (!decide (a ∈ out)) := by simp [e]
      rw [k]
      refine ⟨by omega, fun hm => ?_⟩
      have := h2 ((List.mem_cons.1 hm).resolve_left (fun h => e h.symm))
      omega
/-- The place of the least one that is lacking among the first i. -/
def Best (l out : List (List UInt8)) (i : Nat) (b : Int) : Prop :=
  (b = -1 ∧ ∀ (k : Nat) x, k < i → l[k]? = some x → x ∈ out) ∨ ∃ (j : Nat) (z : List UInt8), j < i ∧ b = (j : Int) ∧ l[j]? = some z ∧ z ∉ out ∧ ∀ (k : Nat) x, k < i → l[k]? = some x → x ∉ out → z ≤ x
noncomputable def rsorted_W : FnW E := fn1 (E := E) .l_str .l_str ln6 Pl.sortD
def rsorted_id : FuncId := 22
noncomputable def rsorted_O : Oracle E := orac [] [] [] []
noncomputable def rsorted_H : Hint E := Hint.mk [(0, [0, 3]), (1, [0, 3, 4, 5])] [] []
noncomputable def rsorted_C0 (v0 : List (List UInt8)) (v1 : Nat) (v2 : List (List UInt8)) : ASt E := ASt.mk 55 [(0, .d (.slice .str v0)), (3, .row .str v1 0)] [(0, .row .str v2)] 1
noncomputable def rsorted_C1 (v0 : List (List UInt8)) (v1 : Nat) (v2 : Int) (v3 : Int) (v4 : List (List UInt8)) : ASt E := ASt.mk 55 [(0, .d (.slice .str v0)), (3, .row .str v1 0), (4, .d (.int .i64 v2)), (5, .d (.int .i64 v3))] [(0, .row .str v4)] 1
noncomputable def rsorted_t (G : Nat → ASt E → Option (List (TV E))) (x0 : List (List UInt8)) : Option (List (TV E)) :=
  G 0 (rsorted_C0 x0 0 ([] : List (List UInt8)))
theorem rsorted_e (G : Nat → ASt E → Option (List (TV E))) (x0 : List (List UInt8)) : runE rsorted_O rsorted_H G Try.f22 [⟨.l_str, x0⟩] = rsorted_t G x0 := by kernel_rfl
noncomputable def rsorted_t0 (G : Nat → ASt E → Option (List (TV E))) (v0 : List (List UInt8)) (v1 : Nat) (v2 : List (List UInt8)) : Option (List (TV E)) :=
  G 1 (rsorted_C1 v0 v1 (-1 : Int) (0 : Int) v2)
theorem rsorted_l0 (G : Nat → ASt E → Option (List (TV E))) (v0 : List (List UInt8)) (v1 : Nat) (v2 : List (List UInt8)) : runL rsorted_O rsorted_H G Try.f22 0 (rsorted_C0 v0 v1 v2) = rsorted_t0 G v0 v1 v2 := by kernel_rfl
noncomputable def rsorted_t1 (G : Nat → ASt E → Option (List (TV E))) (v0 : List (List UInt8)) (v1 : Nat) (v2 : Int) (v3 : Int) (v4 : List (List UInt8)) : Option (List (TV E)) :=
  bif (decide (v3 < (v0.length : Int))) then (bif ((decide ((0 : Int) ≤ v3) && decide (v3 < (v0.length : Int))) || !(!(((v1 : Nat) : Int) == (0 : Int)))) then (bif ((decide ((0 : Int) ≤ (w64 (((v1 : Nat) : Int) - (1 : Int)))) && decide ((w64 (((v1 : Nat) : Int) - (1 : Int))) < (v1 : Nat))) || !(!(((v1 : Nat) : Int) == (0 : Int)))) then (bif ((decide ((0 : Int) ≤ v3) && decide (v3 < (v0.length : Int))) || !((bif (((v1 : Nat) : Int) == (0 : Int)) then true else (!(Op.bytesLess (List.getD v0 (Int.toNat v3) (dflt .str)) (List.getD v4 (Int.toNat (w64 (((v1 : Nat) : Int) - (1 : Int)))) (dflt .str)) || (List.getD v0 (Int.toNat v3) (dflt .str)) == (List.getD v4 (Int.toNat (w64 (((v1 : Nat) : Int) - (1 : Int)))) (dflt .str))))) && (!(decide (v2 < (0 : Int)))))) then (bif ((decide ((0 : Int) ≤ v2) && decide (v2 < (v0.length : Int))) || !((bif (((v1 : Nat) : Int) == (0 : Int)) then true else (!(Op.bytesLess (List.getD v0 (Int.toNat v3) (dflt .str)) (List.getD v4 (Int.toNat (w64 (((v1 : Nat) : Int) - (1 : Int)))) (dflt .str)) || (List.getD v0 (Int.toNat v3) (dflt .str)) == (List.getD v4 (Int.toNat (w64 (((v1 : Nat) : Int) - (1 : Int)))) (dflt .str))))) && (!(decide (v2 < (0 : Int)))))) then (bif (bif (bif (((v1 : Nat) : Int) == (0 : Int)) then true else (!(Op.bytesLess (List.getD v0 (Int.toNat v3) (dflt .str)) (List.getD v4 (Int.toNat (w64 (((v1 : Nat) : Int) - (1 : Int)))) (dflt .str)) || (List.getD v0 (Int.toNat v3) (dflt .str)) == (List.getD v4 (Int.toNat (w64 (((v1 : Nat) : Int) - (1 : Int)))) (dflt .str))))) then (bif (decide (v2 < (0 : Int))) then true else (Op.bytesLess (List.getD v0 (Int.toNat v3) (dflt .str)) (List.getD v0 (Int.toNat v2) (dflt .str)))) else false) then G 1 (rsorted_C1 v0 v1 v3 (w64 (v3 + (1 : Int))) v4) else G 1 (rsorted_C1 v0 v1 v2 (w64 (v3 + (1 : Int))) v4)) else none) else none) else none) else none) else (bif (decide (v2 < (0 : Int))) then some [⟨.l_str, v4⟩] else (bif (decide ((0 : Int) ≤ v2) && decide (v2 < (v0.length : Int))) then (bif (decide ((v4.length + ([(List.getD v0 (Int.toNat v2) (dflt .str))] : List (List UInt8)).length) * 16 ≤ maxBytes)) then G 0 (rsorted_C0 v0 (v4.length + ([(List.getD v0 (Int.toNat v2) (dflt .str))] : List (List UInt8)).length) (v4 ++ ([(List.getD v0 (Int.toNat v2) (dflt .str))] : List (List UInt8)))) else none) else none))
theorem rsorted_l1 (G : Nat → ASt E → Option (List (TV E))) (v0 : List (List UInt8)) (v1 : Nat) (v2 : Int) (v3 : Int) (v4 : List (List UInt8)) : runL rsorted_O rsorted_H G Try.f22 1 (rsorted_C1 v0 v1 v2 v3 v4) = rsorted_t1 G v0 v1 v2 v3 v4 := by kernel_rfl
theorem rsorted_f : Try.prog.funcs[22]? = some Try.f22 := by kernel_rfl
theorem rsorted_n : (Try.f22.name == "runtime.NumGoroutine") = false := by kernel_rfl
theorem rsorted_b : Try.f22.body.isNone = false := by kernel_rfl
theorem rsorted_ex : ∃ fn, Try.prog.funcs[22]? = some fn ∧ (fn.name == "runtime.NumGoroutine") = false ∧ fn.body.isNone = false := ⟨Try.f22, rsorted_f, rsorted_n, rsorted_b⟩
theorem rsorted_hO : OracleOk E rsorted_O := orac_ok .nil .nil .nil .nil
theorem rsorted_s0 {res : List (TV E)} {v0 : List (List UInt8)} {v1 : Nat} {v2 : List (List UInt8)} (h : rsorted_t0 (Gr E Try.f22 res) v0 v1 v2 = some res) : Ev E Try.f22 res 0 (rsorted_C0 v0 v1 v2) := Ev.step rsorted_hO mix ((rsorted_l0 _ v0 v1 v2).trans h)
theorem rsorted_s1 {res : List (TV E)} {v0 : List (List UInt8)} {v1 : Nat} {v2 : Int} {v3 : Int} {v4 : List (List UInt8)} (h : rsorted_t1 (Gr E Try.f22 res) v0 v1 v2 v3 v4 = some res) : Ev E Try.f22 res 1 (rsorted_C1 v0 v1 v2 v3 v4) := Ev.step rsorted_hO mix ((rsorted_l1 _ v0 v1 v2 v3 v4).trans h)
theorem rsorted_ok_of (h : ∀ (x0 : List (List UInt8)), ln6 x0 = true → rsorted_t (Gr E Try.f22 [⟨.l_str, Pl.sortD x0⟩]) x0 = some [⟨.l_str, Pl.sortD x0⟩]) : FnOk E rsorted_id rsorted_W := fn1_ok rsorted_hO mix rsorted_f rsorted_n rsorted_b (fun x0 hk => (rsorted_e _ x0).trans (h x0 hk))
theorem rsorted_1 (l out : List (List UInt8)) (hl : l.length ≤ 1000000) (hp : Pre l out) (hn : out.length + lack l out ≤ l.length)
    (ih : ∀ z, Pre l (out ++ [z]) → (out ++ [z]).length + lack l (out ++ [z]) ≤ l.length → lack l (out ++ [z]) < lack l out → Ev E Try.f22 [⟨.l_str, Pl.sortD l⟩] 0 (rsorted_C0 l (out ++ [z]).length (out ++ [z]))) :
    ∀ (m i : Nat) (b : Int), l.length - i = m → i ≤ l.length → Best l out i b → Ev E Try.f22 [⟨.l_str, Pl.sortD l⟩] 1 (rsorted_C1 l out.length b i out) := by
  have ho : out.length ≤ 1000000 := by omega
  intro m
  induction m with
  | zero =>
    intro i b h1 h2 hb
    have e : i = l.length := by omega
    subst e
    refine rsorted_s1 ?_
    simp only [rsorted_t1, dge (Nat.le_refl l.length), cond_false]
    rcases hb with ⟨rfl, hb⟩ | ⟨j, z, hj, rfl, hz, hzo, hmin⟩
    · rw [dT (by decide), cond_true, Pl.sortD_eq hp.ss fun x => ⟨hp.sub x, fun hx => ?_⟩]
      obtain ⟨k, hk, rfl⟩ := List.mem_iff_getElem.1 hx
      exact hb k _ hk (List.getElem?_eq_getElem hk)
    · have hzl : l[j] = z := by rw [List.getElem?_eq_getElem hj] at hz; exact Option.some.inj hz
      rw [dF (by omega), cond_false, d0, dlt hj, gd l _ j hj, hzl]
      simp only [Bool.and_self, cond_true]
      rw [dT (show (out.length + [z].length) * 16 ≤ maxBytes by rw [mb, List.length_singleton]; omega), cond_true]
      have hmem : z ∈ l := by rw [← hzl]; exact List.getElem_mem hj
      have hlk := (lack_step out z hzo l).2 hmem
      have hpre : Pre l (out ++ [z]) := {
        ss := by
          unfold Pl.SS
          rw [List.pairwise_append]
          exact ⟨hp.ss, List.pairwise_singleton _ _, fun x hx y hy => by
            have : y = z := by simpa using hy
            subst this
            exact hp.low y hmem hzo x hx⟩
        sub := fun x hx => by
          rcases List.mem_append.1 hx with hx | hx
          · exact hp.sub x hx
          · have : x = z := by simpa using hx
            subst this; exact hmem
        low := fun y hy hyo x hx => by
          have hyo' : y ∉ out := fun h => hyo (List.mem_append_left _ h)
          have hyz : y ≠ z := fun h => hyo (by rw [h]; simp)
          rcases List.mem_append.1 hx with hx | hx
          · exact hp.low y hy hyo' x hx
          · have : x = z := by simpa using hx
            subst this
            obtain ⟨k, hk, rfl⟩ := List.mem_iff_getElem.1 hy
            exact Pl.s_lt_of_le_ne (hmin k _ hk (List.getElem?_eq_getElem hk) hyo') (fun h => hyz h.symm) }
      have := Gr_of (ih z hpre (by rw [List.length_append, List.length_singleton]; omega) (by omega))
      rw [List.length_append] at this
      exact this
  | succ m ihm =>
    intro i b h1 h2 hb
    have hi : i < l.length := by omega
    have hgi := List.getElem?_eq_getElem hi
    refine rsorted_s1 ?_
    have hlast := hp.last (List.getElem_mem hi)
    have e3 : w64 ((i : Int) + 1) = ((i + 1 : Nat) : Int) := by rw [w64_id (by omega) (by omega)]; omega
    simp only [rsorted_t1, dlt hi, d0, gd l _ i hi, cExpr out _ ho, okLast out ho, e3, Bool.and_self, Bool.true_or, cond_true]
    cases hc : lastLt out l[i] with
    | false =>
      have hin : l[i] ∈ out := Decidable.byContradiction fun h => by rw [hlast.2 h] at hc; cases hc
      simp only [Bool.false_and, Bool.not_false, Bool.or_true, cond_true, cond_false]
      refine Gr_of (ihm (i + 1) b (by omega) (by omega) ?_)
      rcases hb with ⟨rfl, hb⟩ | ⟨j, z, hj, rfl, hz, hzo, hmin⟩
      · refine .inl ⟨rfl, fun k x hk hx => ?_⟩
        by_cases hki : k = i
        · subst hki; rw [hgi] at hx; cases hx; exact hin
        · exact hb k x (by omega) hx
      · refine .inr ⟨j, z, by omega, rfl, hz, hzo, fun k x hk hx hxo => ?_⟩
        by_cases hki : k = i
        · subst hki; rw [hgi] at hx; cases hx; exact absurd hin hxo
        · exact hmin k x (by omega) hx hxo
    | true =>
      have hno : l[i] ∉ out := hlast.1 hc
      rcases hb with ⟨rfl, hb⟩ | ⟨j, z, hj, rfl, hz, hzo, hmin⟩
      · have hd : decide ((-1 : Int) < 0) = true := by decide
        simp only [hd, Bool.not_true, Bool.and_false, Bool.not_false, Bool.or_true, cond_true]
        refine Gr_of (ihm (i + 1) (i : Int) (by omega) (by omega) (.inr ⟨i, l[i], by omega, rfl, hgi, hno, fun k x hk hx hxo => ?_⟩))
        by_cases hki : k = i
        · subst hki; rw [hgi] at hx; cases hx; exact Pl.s_le_iff.2 (Pl.s_irrefl _)
        · exact absurd (hb k x (by omega) hx) hxo
      · have hjl : j < l.length := by omega
        have hzl : l[j] = z := by rw [List.getElem?_eq_getElem hjl] at hz; exact Option.some.inj hz
        have hd : decide ((j : Int) < 0) = false := dF (by omega)
        simp only [hd, d0, dlt hjl, gd l _ j hjl, hzl, Bool.not_false, Bool.and_self, Bool.true_or, cond_true, cond_false, Go.Proofs.bytesLess_eq]
        by_cases hlt : l[i] < z
        · rw [dT hlt, cond_true]
          refine Gr_of (ihm (i + 1) (i : Int) (by omega) (by omega) (.inr ⟨i, l[i], by omega, rfl, hgi, hno, fun k x hk hx hxo => ?_⟩))
          by_cases hki : k = i
          · subst hki; rw [hgi] at hx; cases hx; exact Pl.s_le_iff.2 (Pl.s_irrefl _)
          · exact Pl.s_le_trans (Pl.s_le_iff.2 (Pl.s_asymm hlt)) (hmin k x (by omega) hx hxo)
        · rw [dF hlt, cond_false]
          refine Gr_of (ihm (i + 1) (j : Int) (by omega) (by omega) (.inr ⟨j, z, by omega, rfl, hz, hzo, fun k x hk hx hxo => ?_⟩))
          by_cases hki : k = i
          · subst hki; rw [hgi] at hx; cases hx; exact Pl.s_le_iff.2 hlt
          · exact hmin k x (by omega) hx hxo
theorem rsorted_0 (l : List (List UInt8)) (hl : l.length ≤ 1000000) : ∀ (m : Nat) (out : List (List UInt8)), lack l out = m → Pre l out → out.length + lack l out ≤ l.length → Ev E Try.f22 [⟨.l_str, Pl.sortD l⟩] 0 (rsorted_C0 l out.length out) := by
  intro m
  induction m using Nat.strongRecOn with
  | ind m ih =>
    intro out hm hp hn
    refine rsorted_s0 ?_
    simp only [rsorted_t0]
    exact Gr_of (rsorted_1 l out hl hp hn (fun z h1 h2 h3 => ih (lack l (out ++ [z])) (by omega) (out ++ [z]) rfl h1 h2) l.length 0 (-1) (by omega) (by omega) (.inl ⟨rfl, fun k x hk => by omega⟩))
theorem rsorted_ok : FnOk E rsorted_id rsorted_W := rsorted_ok_of fun l hk => by
  have hl := ln6_iff.1 hk
  have hlack : lack l [] ≤ l.length := List.countP_le_length
  exact Gr_of (rsorted_0 l hl _ [] rfl ⟨List.Pairwise.nil, fun x h => (by cases h), fun y _ _ x h => (by cases h)⟩ (by rw [List.length_nil]; omega))
noncomputable def rboth_W : FnW E := fn2 (E := E) .l_str .l_str .l_str ln5 both
def rboth_id : FuncId := 19
noncomputable def rboth_O : Oracle E := orac [(22, rsorted_W)] [] [] []
noncomputable def rboth_H : Hint E := Hint.mk [(0, [0, 1, 5, 6]), (1, [1, 5, 7])] [] []
noncomputable def rboth_C0 (v0 : List (List UInt8)) (v1 : List (List UInt8)) (v2 : Nat) (v3 : Int) (v4 : List (List UInt8)) : ASt E := ASt.mk 37 [(0, .d (.slice .str v0)), (1, .d (.slice .str v1)), (5, .row .str v2 0), (6, .d (.int .i64 v3))] [(0, .row .str v4)] 1
noncomputable def rboth_C1 (v0 : List (List UInt8)) (v1 : Nat) (v2 : Int) (v3 : List (List UInt8)) : ASt E := ASt.mk 37 [(1, .d (.slice .str v0)), (5, .row .str v1 0), (7, .d (.int .i64 v2))] [(0, .row .str v3)] 1
noncomputable def rboth_t (G : Nat → ASt E → Option (List (TV E))) (x0 : List (List UInt8)) (x1 : List (List UInt8)) : Option (List (TV E)) :=
  G 0 (rboth_C0 x0 x1 0 (0 : Int) ([] : List (List UInt8)))
theorem rboth_e (G : Nat → ASt E → Option (List (TV E))) (x0 : List (List UInt8)) (x1 : List (List UInt8)) : runE rboth_O rboth_H G Try.f19 [⟨.l_str, x0⟩, ⟨.l_str, x1⟩] = rboth_t G x0 x1 := by kernel_rfl
noncomputable def rboth_t0 (G : Nat → ASt E → Option (List (TV E))) (v0 : List (List UInt8)) (v1 : List (List UInt8)) (v2 : Nat) (v3 : Int) (v4 : List (List UInt8)) : Option (List (TV E)) :=
  bif (decide (v3 < (v0.length : Int))) then (bif (decide ((0 : Int) ≤ v3) && decide (v3 < (v0.length : Int))) then (bif (decide ((v4.length + ([(List.getD v0 (Int.toNat v3) (dflt .str))] : List (List UInt8)).length) * 16 ≤ maxBytes)) then G 0 (rboth_C0 v0 v1 (v4.length + ([(List.getD v0 (Int.toNat v3) (dflt .str))] : List (List UInt8)).length) (w64 (v3 + (1 : Int))) (v4 ++ ([(List.getD v0 (Int.toNat v3) (dflt .str))] : List (List UInt8)))) else none) else none) else G 1 (rboth_C1 v1 v2 (0 : Int) v4)
theorem rboth_l0 (G : Nat → ASt E → Option (List (TV E))) (v0 : List (List UInt8)) (v1 : List (List UInt8)) (v2 : Nat) (v3 : Int) (v4 : List (List UInt8)) : runL rboth_O rboth_H G Try.f19 0 (rboth_C0 v0 v1 v2 v3 v4) = rboth_t0 G v0 v1 v2 v3 v4 := by kernel_rfl
noncomputable def rboth_t1 (G : Nat → ASt E → Option (List (TV E))) (v0 : List (List UInt8)) (_v1 : Nat) (v2 : Int) (v3 : List (List UInt8)) : Option (List (TV E)) :=
  bif (decide (v2 < (v0.length : Int))) then (bif (decide ((0 : Int) ≤ v2) && decide (v2 < (v0.length : Int))) then (bif (decide ((v3.length + ([(List.getD v0 (Int.toNat v2) (dflt .str))] : List (List UInt8)).length) * 16 ≤ maxBytes)) then G 1 (rboth_C1 v0 (v3.length + ([(List.getD v0 (Int.toNat v2) (dflt .str))] : List (List UInt8)).length) (w64 (v2 + (1 : Int))) (v3 ++ ([(List.getD v0 (Int.toNat v2) (dflt .str))] : List (List UInt8)))) else none) else none) else (bif (ln6 v3) then some [⟨.l_str, (Pl.sortD v3)⟩] else none)
theorem rboth_l1 (G : Nat → ASt E → Option (List (TV E))) (v0 : List (List UInt8)) (v1 : Nat) (v2 : Int) (v3 : List (List UInt8)) : runL rboth_O rboth_H G Try.f19 1 (rboth_C1 v0 v1 v2 v3) = rboth_t1 G v0 v1 v2 v3 := by kernel_rfl
theorem rboth_f : Try.prog.funcs[19]? = some Try.f19 := by kernel_rfl
theorem rboth_n : (Try.f19.name == "runtime.NumGoroutine") = false := by kernel_rfl
theorem rboth_b : Try.f19.body.isNone = false := by kernel_rfl
theorem rboth_ex : ∃ fn, Try.prog.funcs[19]? = some fn ∧ (fn.name == "runtime.NumGoroutine") = false ∧ fn.body.isNone = false := ⟨Try.f19, rboth_f, rboth_n, rboth_b⟩
theorem rboth_hO : OracleOk E rboth_O := orac_ok (.cons rsorted_ok .nil) .nil .nil .nil
theorem rboth_s0 {res : List (TV E)} {v0 : List (List UInt8)} {v1 : List (List UInt8)} {v2 : Nat} {v3 : Int} {v4 : List (List UInt8)} (h : rboth_t0 (Gr E Try.f19 res) v0 v1 v2 v3 v4 = some res) : Ev E Try.f19 res 0 (rboth_C0 v0 v1 v2 v3 v4) := Ev.step rboth_hO mix ((rboth_l0 _ v0 v1 v2 v3 v4).trans h)
theorem rboth_s1 {res : List (TV E)} {v0 : List (List UInt8)} {v1 : Nat} {v2 : Int} {v3 : List (List UInt8)} (h : rboth_t1 (Gr E Try.f19 res) v0 v1 v2 v3 = some res) : Ev E Try.f19 res 1 (rboth_C1 v0 v1 v2 v3) := Ev.step rboth_hO mix ((rboth_l1 _ v0 v1 v2 v3).trans h)
theorem rboth_ok_of (h : ∀ (x0 : List (List UInt8)) (x1 : List (List UInt8)), ln5 x0 x1 = true → rboth_t (Gr E Try.f19 [⟨.l_str, both x0 x1⟩]) x0 x1 = some [⟨.l_str, both x0 x1⟩]) : FnOk E rboth_id rboth_W := fn2_ok rboth_hO mix rboth_f rboth_n rboth_b (fun x0 x1 hk => (rboth_e _ x0 x1).trans (h x0 x1 hk))
theorem rboth_1 (b : List (List UInt8)) (hb : b.length ≤ 100000) : ∀ (m i v : Nat) (out : List (List UInt8)), b.length - i = m → i ≤ b.length → out.length + m ≤ 100000 → Ev E Try.f19 [⟨.l_str, Pl.sortD (out ++ b.drop i)⟩] 1 (rboth_C1 b v i out) := by
  intro m
  induction m with
  | zero =>
    intro i v out h1 h2 h3
    refine rboth_s1 ?_
    have h6 : ln6 out = true := ln6_iff.2 (by omega)
    simp only [rboth_t1, dge (show b.length ≤ i by omega), cond_false, List.drop_eq_nil_of_le (show b.length ≤ i by omega), List.append_nil, h6, cond_true]
  | succ m ih =>
    intro i v out h1 h2 h3
    have hi : i < b.length := by omega
    refine rboth_s1 ?_
    simp only [rboth_t1, dlt hi, d0, gd b _ i hi, Bool.and_self, cond_true]
    rw [dT (show (out.length + [b[i]].length) * 16 ≤ maxBytes by rw [mb, List.length_singleton]; omega), cond_true, w64_id (by omega) (by omega), ← List.getElem_cons_drop hi]
    have := Gr_of (ih (i + 1) (out.length + [b[i]].length) (out ++ [b[i]]) (by omega) (by omega) (by rw [List.length_append, List.length_singleton]; omega))
    rw [List.append_assoc] at this
    exact this
theorem rboth_0 (a b : List (List UInt8)) (hab : a.length + b.length ≤ 100000) : ∀ (m i v : Nat) (out : List (List UInt8)), a.length - i = m → i ≤ a.length → out.length + m + b.length ≤ 100000 → Ev E Try.f19 [⟨.l_str, Pl.sortD (out ++ a.drop i ++ b)⟩] 0 (rboth_C0 a b v i out) := by
  intro m
  induction m with
  | zero =>
    intro i v out h1 h2 h3
    refine rboth_s0 ?_
    simp only [rboth_t0, dge (show a.length ≤ i by omega), cond_false, List.drop_eq_nil_of_le (show a.length ≤ i by omega), List.append_nil]
    exact Gr_of (rboth_1 b (by omega) b.length 0 v out (by omega) (by omega) (by omega))
  | succ m ih =>
    intro i v out h1 h2 h3
    have hi : i < a.length := by omega
    refine rboth_s0 ?_
    simp only [rboth_t0, dlt hi, d0, gd a _ i hi, Bool.and_self, cond_true]
    rw [dT (show (out.length + [a[i]].length) * 16 ≤ maxBytes by rw [mb, List.length_singleton]; omega), cond_true, w64_id (by omega) (by omega), ← List.getElem_cons_drop hi]
    have := Gr_of (ih (i + 1) (out.length + [a[i]].length) (out ++ [a[i]]) (by omega) (by omega) (by rw [List.length_append, List.length_singleton]; omega))
    rw [List.append_assoc out [a[i]]] at this
    exact this
theorem rboth_ok : FnOk E rboth_id rboth_W := rboth_ok_of fun a b hk => by
  simp only [ln5, decide_eq_true_eq] at hk
  have := Gr_of (rboth_0 a b hk a.length 0 0 [] (by omega) (by omega) (by rw [List.length_nil]; omega))
  rw [List.drop_zero, List.nil_append] at this
  exact this
noncomputable def rsame_W : FnW E := fn2 (E := E) .l_str .l_str .bool (fun a _ => ln6 a) equal
def rsame_id : FuncId := 9
noncomputable def rsame_O : Oracle E := orac [] [] [] []
noncomputable def rsame_H : Hint E := Hint.mk [(0, [0, 1, 5])] [] []
noncomputable def rsame_C0 (v0 : List (List UInt8)) (v1 : List (List UInt8)) (v2 : Int) : ASt E := ASt.mk 26 [(0, .d (.slice .str v0)), (1, .d (.slice .str v1)), (5, .d (.int .i64 v2))] [] 0
noncomputable def rsame_t (G : Nat → ASt E → Option (List (TV E))) (x0 : List (List UInt8)) (x1 : List (List UInt8)) : Option (List (TV E)) :=
  bif ((x0.length : Int) != (x1.length : Int)) then some [⟨.bool, false⟩] else G 0 (rsame_C0 x0 x1 (0 : Int))
theorem rsame_e (G : Nat → ASt E → Option (List (TV E))) (x0 : List (List UInt8)) (x1 : List (List UInt8)) : runE rsame_O rsame_H G Try.f9 [⟨.l_str, x0⟩, ⟨.l_str, x1⟩] = rsame_t G x0 x1 := by kernel_rfl
noncomputable def rsame_t0 (G : Nat → ASt E → Option (List (TV E))) (v0 : List (List UInt8)) (v1 : List (List UInt8)) (v2 : Int) : Option (List (TV E)) :=
  bif (decide (v2 < (v0.length : Int))) then (bif (decide ((0 : Int) ≤ v2) && decide (v2 < (v0.length : Int))) then (bif (decide ((0 : Int) ≤ v2) && decide (v2 < (v1.length : Int))) then (bif (!((List.getD v0 (Int.toNat v2) (dflt .str)) == (List.getD v1 (Int.toNat v2) (dflt .str)))) then some [⟨.bool, false⟩] else G 0 (rsame_C0 v0 v1 (w64 (v2 + (1 : Int))))) else none) else none) else some [⟨.bool, true⟩]
theorem rsame_l0 (G : Nat → ASt E → Option (List (TV E))) (v0 : List (List UInt8)) (v1 : List (List UInt8)) (v2 : Int) : runL rsame_O rsame_H G Try.f9 0 (rsame_C0 v0 v1 v2) = rsame_t0 G v0 v1 v2 := by kernel_rfl
theorem rsame_f : Try.prog.funcs[9]? = some Try.f9 := by kernel_rfl
theorem rsame_n : (Try.f9.name == "runtime.NumGoroutine") = false := by kernel_rfl
theorem rsame_b : Try.f9.body.isNone = false := by kernel_rfl
theorem rsame_ex : ∃ fn, Try.prog.funcs[9]? = some fn ∧ (fn.name == "runtime.NumGoroutine") = false ∧ fn.body.isNone = false := ⟨Try.f9, rsame_f, rsame_n, rsame_b⟩
theorem rsame_hO : OracleOk E rsame_O := orac_ok .nil .nil .nil .nil
theorem rsame_s0 {res : List (TV E)} {v0 : List (List UInt8)} {v1 : List (List UInt8)} {v2 : Int} (h : rsame_t0 (Gr E Try.f9 res) v0 v1 v2 = some res) : Ev E Try.f9 res 0 (rsame_C0 v0 v1 v2) := Ev.step rsame_hO mix ((rsame_l0 _ v0 v1 v2).trans h)
theorem rsame_ok_of (h : ∀ (x0 : List (List UInt8)) (x1 : List (List UInt8)), (fun a _ => ln6 a) x0 x1 = true → rsame_t (Gr E Try.f9 [⟨.bool, equal x0 x1⟩]) x0 x1 = some [⟨.bool, equal x0 x1⟩]) : FnOk E rsame_id rsame_W := fn2_ok rsame_hO mix rsame_f rsame_n rsame_b (fun x0 x1 hk => (rsame_e _ x0 x1).trans (h x0 x1 hk))
theorem rsame_loop (a b : List (List UInt8)) (ha : a.length ≤ 1000000) (hab : a.length = b.length) : ∀ (m i : Nat), a.length - i = m → i ≤ a.length → Ev E Try.f9 [⟨.bool, a.drop i == b.drop i⟩] 0 (rsame_C0 a b i) := by
  intro m
  induction m with
  | zero =>
    intro i h1 h2
    refine rsame_s0 ?_
    simp only [rsame_t0, dge (show a.length ≤ i by omega), cond_false, List.drop_eq_nil_of_le (show a.length ≤ i by omega), List.drop_eq_nil_of_le (show b.length ≤ i by omega)]
    rfl
  | succ m ih =>
    intro i h1 h2
    have hi : i < a.length := by omega
    have hj : i < b.length := by omega
    refine rsame_s0 ?_
    simp only [rsame_t0, dlt hi, dlt hj, d0, gd a _ i hi, gd b _ i hj, Bool.and_self, cond_true]
    rw [← List.getElem_cons_drop hi, ← List.getElem_cons_drop hj, w64_id (by omega) (by omega)]
    by_cases hs : a[i] = b[i]
    · have e : (a[i] :: a.drop (i + 1) == b[i] :: b.drop (i + 1)) = (a.drop (i + 1) == b.drop (i + 1)) := by rw [List.cons_beq_cons]; simp [hs]
      rw [e, show (a[i] == b[i]) = true from by simpa using hs]
      exact Gr_of (ih (i + 1) (by omega) (by omega))
    · have e : (a[i] :: a.drop (i + 1) == b[i] :: b.drop (i + 1)) = false := by rw [List.cons_beq_cons]; simp [hs]
      rw [e, show (a[i] == b[i]) = false from by simpa using hs]
      rfl
theorem rsame_ok : FnOk E rsame_id rsame_W := rsame_ok_of fun a b hk => by
  simp only [rsame_t]
  by_cases h : a.length = b.length
  · rw [neF (by omega), cond_false]
    have := rsame_loop a b (ln6_iff.1 hk) h a.length 0 (by omega) (by omega)
    rw [List.drop_zero, List.drop_zero] at this
    exact Gr_of this
  · rw [neT (by omega), cond_true]
    have : equal a b = false := by simp only [equal, beq_eq_false_iff_ne]; exact fun e => h (by rw [e])
    rw [this]
/-! ### The reference's nodes (08) -/
noncomputable def rget_W : FnW E := fn22 (E := E) .api_Node .str .api_Node .bool (fun n _ => fit n) getV getB
def rget_id : FuncId := 20
noncomputable def rget_O : Oracle E := orac [] [] [] []
noncomputable def rget_H : Hint E := Hint.mk [(0, [1, 2, 4, 6])] [] []
noncomputable def rget_C0 (v0 : List UInt8) (v1 : Int) (v2 : Int) (v3 : List UInt8) (v4 : List (List UInt8)) (v5 : List Node) (v6 : Int) (v7 : List UInt8) : ASt E := ASt.mk 30 [(1, .d (.str v0)), (2, .ptr 0 0), (4, .ptr 1 0), (6, .d (.int .i64 v1))] [(0, .box [.d (.int .i64 v2), .d (.str v3), .d (.slice .str v4), .d (.slice .api_Node v5)]), (1, .box [.d (.int .i64 v6), .d (.str v7), .d (.raw (.slice none 0 0)), .d (.raw (.slice none 0 0))])] 2
noncomputable def rget_t (G : Nat → ASt E → Option (List (TV E))) (x0 : Node) (x1 : List UInt8) : Option (List (TV E)) :=
  bif (x0.kind == (3 : Int)) then G 0 (rget_C0 x1 (0 : Int) x0.kind x0.text x0.keys x0.kids (0 : Int) ([] : List UInt8)) else some [⟨.api_Node, (⟨(0 : Int), ([] : List UInt8), ([] : List (List UInt8)), ([] : List Node)⟩ : Node)⟩, ⟨.bool, false⟩]
theorem rget_e (G : Nat → ASt E → Option (List (TV E))) (x0 : Node) (x1 : List UInt8) : runE rget_O rget_H G Try.f20 [⟨.api_Node, x0⟩, ⟨.str, x1⟩] = rget_t G x0 x1 := by kernel_rfl
noncomputable def rget_t0 (G : Nat → ASt E → Option (List (TV E))) (v0 : List UInt8) (v1 : Int) (v2 : Int) (v3 : List UInt8) (v4 : List (List UInt8)) (v5 : List Node) (v6 : Int) (v7 : List UInt8) : Option (List (TV E)) :=
  bif (decide (v1 < (v4.length : Int))) then (bif (decide ((0 : Int) ≤ v1) && decide (v1 < (v4.length : Int))) then (bif ((List.getD v4 (Int.toNat v1) (dflt .str)) == v0) then (bif (decide ((0 : Int) ≤ v1) && decide (v1 < (v5.length : Int))) then some [⟨.api_Node, (⟨(List.getD v5 (Int.toNat v1) (dflt .api_Node)).kind, (List.getD v5 (Int.toNat v1) (dflt .api_Node)).text, (List.getD v5 (Int.toNat v1) (dflt .api_Node)).keys, (List.getD v5 (Int.toNat v1) (dflt .api_Node)).kids⟩ : Node)⟩, ⟨.bool, true⟩] else none) else G 0 (rget_C0 v0 (w64 (v1 + (1 : Int))) v2 v3 v4 v5 v6 v7)) else none) else some [⟨.api_Node, (⟨(0 : Int), ([] : List UInt8), ([] : List (List UInt8)), ([] : List Node)⟩ : Node)⟩, ⟨.bool, false⟩]
theorem rget_l0 (G : Nat → ASt E → Option (List (TV E))) (v0 : List UInt8) (v1 : Int) (v2 : Int) (v3 : List UInt8) (v4 : List (List UInt8)) (v5 : List Node) (v6 : Int) (v7 : List UInt8) : runL rget_O rget_H G Try.f20 0 (rget_C0 v0 v1 v2 v3 v4 v5 v6 v7) = rget_t0 G v0 v1 v2 v3 v4 v5 v6 v7 := by kernel_rfl
theorem rget_f : Try.prog.funcs[20]? = some Try.f20 := by kernel_rfl
theorem rget_n : (Try.f20.name == "runtime.NumGoroutine") = false := by kernel_rfl
theorem rget_b : Try.f20.body.isNone = false := by kernel_rfl
theorem rget_ex : ∃ fn, Try.prog.funcs[20]? = some fn ∧ (fn.name == "runtime.NumGoroutine") = false ∧ fn.body.isNone = false := ⟨Try.f20, rget_f, rget_n, rget_b⟩
theorem rget_hO : OracleOk E rget_O := orac_ok .nil .nil .nil .nil
theorem rget_s0 {res : List (TV E)} {v0 : List UInt8} {v1 : Int} {v2 : Int} {v3 : List UInt8} {v4 : List (List UInt8)} {v5 : List Node} {v6 : Int} {v7 : List UInt8} (h : rget_t0 (Gr E Try.f20 res) v0 v1 v2 v3 v4 v5 v6 v7 = some res) : Ev E Try.f20 res 0 (rget_C0 v0 v1 v2 v3 v4 v5 v6 v7) := Ev.step rget_hO mix ((rget_l0 _ v0 v1 v2 v3 v4 v5 v6 v7).trans h)
theorem rget_ok_of (h : ∀ (x0 : Node) (x1 : List UInt8), (fun n _ => fit n) x0 x1 = true → rget_t (Gr E Try.f20 [⟨.api_Node, getV x0 x1⟩, ⟨.bool, getB x0 x1⟩]) x0 x1 = some [⟨.api_Node, getV x0 x1⟩, ⟨.bool, getB x0 x1⟩]) : FnOk E rget_id rget_W := fn22_ok rget_hO mix rget_f rget_n rget_b (fun x0 x1 hk => (rget_e _ x0 x1).trans (h x0 x1 hk))
theorem lk_drop (keys : List (List UInt8)) (kids : List Node) (k : List UInt8) (hl : keys.length = kids.length) (i : Nat) (hi : i < keys.length) : lk (keys.drop i) (kids.drop i) k = if k = keys[i] then some (kids[i]'(by omega)) else lk (keys.drop (i + 1)) (kids.drop (i + 1)) k := by
  rw [← List.getElem_cons_drop hi, ← List.getElem_cons_drop (show i < kids.length by omega)]
  rfl
theorem rget_loop (n : Node) (k : List UInt8) (hl : n.keys.length = n.kids.length) (hb : n.keys.length ≤ 1000000) (u0 : Int) (u1 : List UInt8) : ∀ (m i : Nat), n.keys.length - i = m → i ≤ n.keys.length →
    Ev E Try.f20 [⟨.api_Node, (lk (n.keys.drop i) (n.kids.drop i) k).getD zn⟩, ⟨.bool, (lk (n.keys.drop i) (n.kids.drop i) k).isSome⟩] 0 (rget_C0 k i n.kind n.text n.keys n.kids u0 u1) := by
  intro m
  induction m with
  | zero =>
    intro i h1 h2
    refine rget_s0 ?_
    simp only [rget_t0, dge (show n.keys.length ≤ i by omega), cond_false, List.drop_eq_nil_of_le (show n.keys.length ≤ i by omega)]
    rfl
  | succ m ih =>
    intro i h1 h2
    have hi : i < n.keys.length := by omega
    have hj : i < n.kids.length := by omega
    refine rget_s0 ?_
    simp only [rget_t0, dlt hi, dlt hj, d0, gd n.keys _ i hi, gd n.kids _ i hj, Bool.and_self, cond_true, node_eta]
    rw [lk_drop n.keys n.kids k hl i hi]
    by_cases e : k = n.keys[i]
    · rw [if_pos e, show (n.keys[i] == k) = true from by simp [e]]
      rfl
    · rw [if_neg e, show (n.keys[i] == k) = false from by simpa using fun h => e h.symm, cond_false, w64_id (by omega) (by omega)]
      exact Gr_of (ih (i + 1) (by omega) (by omega))
theorem rget_ok : FnOk E rget_id rget_W := rget_ok_of fun n k hk => by
  have hf := fit_iff.1 hk
  unfold getV getB get
  by_cases h : n.kind = 3
  · simp only [rget_t, eqT h, cond_true, if_pos h]
    have := Gr_of (rget_loop n k (hf.2 h) hf.1.1 0 [] n.keys.length 0 (by omega) (by omega))
    rw [List.drop_zero, List.drop_zero] at this
    exact this
  · simp only [rget_t, eqF h, cond_false, if_neg h]
    rfl
noncomputable def rnsame_W (n : Nat) : FnW E := fn2 (E := E) .api_Node .api_Node .bool (okS n) (same n)
def rnsame_id : FuncId := 6
noncomputable def rnsame_O (n : Nat) : Oracle E := orac [(9, rsame_W), (6, rnsame_W n)] [] [] []
noncomputable def rnsame_H : Hint E := Hint.mk [(0, [2, 3, 5])] [] []
noncomputable def rnsame_C0 (v0 : Int) (v1 : Int) (v2 : List UInt8) (v3 : List (List UInt8)) (v4 : List Node) (v5 : Int) (v6 : List UInt8) (v7 : List (List UInt8)) (v8 : List Node) : ASt E := ASt.mk 54 [(2, .ptr 0 0), (3, .ptr 1 0), (5, .d (.int .i64 v0))] [(0, .box [.d (.int .i64 v1), .d (.str v2), .d (.slice .str v3), .d (.slice .api_Node v4)]), (1, .box [.d (.int .i64 v5), .d (.str v6), .d (.slice .str v7), .d (.slice .api_Node v8)])] 2
noncomputable def rnsame_t (_n : Nat) (G : Nat → ASt E → Option (List (TV E))) (x0 : Node) (x1 : Node) : Option (List (TV E)) :=
  bif (((fun a _ => ln6 a) x0.keys x1.keys) || !(!(bif (x0.kind != x1.kind) then true else (!(x0.text == x1.text))))) then (bif (bif (bif (bif (x0.kind != x1.kind) then true else (!(x0.text == x1.text))) then true else (!(equal x0.keys x1.keys))) then true else ((x0.kids.length : Int) != (x1.kids.length : Int))) then some [⟨.bool, false⟩] else G 0 (rnsame_C0 (0 : Int) x0.kind x0.text x0.keys x0.kids x1.kind x1.text x1.keys x1.kids)) else none
theorem rnsame_e (n : Nat) (G : Nat → ASt E → Option (List (TV E))) (x0 : Node) (x1 : Node) : runE (rnsame_O n) rnsame_H G Try.f6 [⟨.api_Node, x0⟩, ⟨.api_Node, x1⟩] = rnsame_t n G x0 x1 := by kernel_rfl
noncomputable def rnsame_t0 (n : Nat) (G : Nat → ASt E → Option (List (TV E))) (v0 : Int) (v1 : Int) (v2 : List UInt8) (v3 : List (List UInt8)) (v4 : List Node) (v5 : Int) (v6 : List UInt8) (v7 : List (List UInt8)) (v8 : List Node) : Option (List (TV E)) :=
  bif (decide (v0 < (v4.length : Int))) then (bif (decide ((0 : Int) ≤ v0) && decide (v0 < (v4.length : Int))) then (bif (decide ((0 : Int) ≤ v0) && decide (v0 < (v8.length : Int))) then (bif ((okS n) (⟨(List.getD v4 (Int.toNat v0) (dflt .api_Node)).kind, (List.getD v4 (Int.toNat v0) (dflt .api_Node)).text, (List.getD v4 (Int.toNat v0) (dflt .api_Node)).keys, (List.getD v4 (Int.toNat v0) (dflt .api_Node)).kids⟩ : Node) (⟨(List.getD v8 (Int.toNat v0) (dflt .api_Node)).kind, (List.getD v8 (Int.toNat v0) (dflt .api_Node)).text, (List.getD v8 (Int.toNat v0) (dflt .api_Node)).keys, (List.getD v8 (Int.toNat v0) (dflt .api_Node)).kids⟩ : Node)) then (bif (!((same n) (⟨(List.getD v4 (Int.toNat v0) (dflt .api_Node)).kind, (List.getD v4 (Int.toNat v0) (dflt .api_Node)).text, (List.getD v4 (Int.toNat v0) (dflt .api_Node)).keys, (List.getD v4 (Int.toNat v0) (dflt .api_Node)).kids⟩ : Node) (⟨(List.getD v8 (Int.toNat v0) (dflt .api_Node)).kind, (List.getD v8 (Int.toNat v0) (dflt .api_Node)).text, (List.getD v8 (Int.toNat v0) (dflt .api_Node)).keys, (List.getD v8 (Int.toNat v0) (dflt .api_Node)).kids⟩ : Node))) then some [⟨.bool, false⟩] else G 0 (rnsame_C0 (w64 (v0 + (1 : Int))) v1 v2 v3 v4 v5 v6 v7 v8)) else none) else none) else none) else some [⟨.bool, true⟩]
theorem rnsame_l0 (n : Nat) (G : Nat → ASt E → Option (List (TV E))) (v0 : Int) (v1 : Int) (v2 : List UInt8) (v3 : List (List UInt8)) (v4 : List Node) (v5 : Int) (v6 : List UInt8) (v7 : List (List UInt8)) (v8 : List Node) : runL (rnsame_O n) rnsame_H G Try.f6 0 (rnsame_C0 v0 v1 v2 v3 v4 v5 v6 v7 v8) = rnsame_t0 n G v0 v1 v2 v3 v4 v5 v6 v7 v8 := by kernel_rfl
theorem rnsame_f : Try.prog.funcs[6]? = some Try.f6 := by kernel_rfl
theorem rnsame_n : (Try.f6.name == "runtime.NumGoroutine") = false := by kernel_rfl
theorem rnsame_b : Try.f6.body.isNone = false := by kernel_rfl
theorem rnsame_ex : ∃ fn, Try.prog.funcs[6]? = some fn ∧ (fn.name == "runtime.NumGoroutine") = false ∧ fn.body.isNone = false := ⟨Try.f6, rnsame_f, rnsame_n, rnsame_b⟩
theorem rnsame_hO (n : Nat) (ih : FnOk E rnsame_id (rnsame_W n)) : OracleOk E (rnsame_O n) := orac_ok (.cons rsame_ok (.cons ih .nil)) .nil .nil .nil
theorem rnsame_s0 (n : Nat) (ih : FnOk E rnsame_id (rnsame_W n)) {res : List (TV E)} {v0 : Int} {v1 : Int} {v2 : List UInt8} {v3 : List (List UInt8)} {v4 : List Node} {v5 : Int} {v6 : List UInt8} {v7 : List (List UInt8)} {v8 : List Node} (h : rnsame_t0 n (Gr E Try.f6 res) v0 v1 v2 v3 v4 v5 v6 v7 v8 = some res) : Ev E Try.f6 res 0 (rnsame_C0 v0 v1 v2 v3 v4 v5 v6 v7 v8) := Ev.step (rnsame_hO n ih) mix ((rnsame_l0 n _ v0 v1 v2 v3 v4 v5 v6 v7 v8).trans h)
theorem rnsame_ok_of (n : Nat) (ih : FnOk E rnsame_id (rnsame_W n)) (h : ∀ (x0 : Node) (x1 : Node), (okS (n + 1)) x0 x1 = true → rnsame_t n (Gr E Try.f6 [⟨.bool, (same (n + 1)) x0 x1⟩]) x0 x1 = some [⟨.bool, (same (n + 1)) x0 x1⟩]) : FnOk E rnsame_id (rnsame_W (n + 1)) := fn2_ok (rnsame_hO n ih) mix rnsame_f rnsame_n rnsame_b (fun x0 x1 hk => (rnsame_e n _ x0 x1).trans (h x0 x1 hk))
theorem rnsame_loop (n : Nat) (ih : FnOk E rnsame_id (rnsame_W n)) (x y : Node) (ha : x.kids.length ≤ 1000000) (hab : x.kids.length = y.kids.length) (hda : ∀ z ∈ x.kids, dp n z = true) (hdb : ∀ z ∈ y.kids, dp n z = true) : ∀ (m i : Nat), x.kids.length - i = m → i ≤ x.kids.length →
    Ev E Try.f6 [⟨.bool, sameW (same n) (x.kids.drop i) (y.kids.drop i)⟩] 0 (rnsame_C0 i x.kind x.text x.keys x.kids y.kind y.text y.keys y.kids) := by
  intro m
  induction m with
  | zero =>
    intro i h1 h2
    refine rnsame_s0 n ih ?_
    simp only [rnsame_t0, dge (show x.kids.length ≤ i by omega), cond_false, List.drop_eq_nil_of_le (show x.kids.length ≤ i by omega), List.drop_eq_nil_of_le (show y.kids.length ≤ i by omega)]
    rfl
  | succ m ih2 =>
    intro i h1 h2
    have hi : i < x.kids.length := by omega
    have hj : i < y.kids.length := by omega
    have hok : okS n x.kids[i] y.kids[i] = true := by simp only [okS, hda _ (List.getElem_mem hi), hdb _ (List.getElem_mem hj), Bool.and_self]
    refine rnsame_s0 n ih ?_
    simp only [rnsame_t0, dlt hi, dlt hj, d0, gd x.kids _ i hi, gd y.kids _ i hj, Bool.and_self, cond_true, node_eta, hok]
    rw [← List.getElem_cons_drop hi, ← List.getElem_cons_drop hj, w64_id (by omega) (by omega)]
    simp only [sameW]
    cases same n x.kids[i] y.kids[i] with
    | false => rfl
    | true =>
      simp only [Bool.not_true, cond_false, Bool.true_and]
      exact Gr_of (ih2 (i + 1) (by omega) (by omega))
theorem rnsame_ok (n : Nat) : FnOk E rnsame_id (rnsame_W n) := by
  induction n with
  | zero => exact fn2_bot rnsame_ex fun x y => rfl
  | succ n ih =>
    refine rnsame_ok_of n ih fun a b hk => ?_
    simp only [okS, Bool.and_eq_true] at hk
    obtain ⟨ha, ha2⟩ := dp_iff.1 hk.1
    obtain ⟨hb, hb2⟩ := dp_iff.1 hk.2
    have hl : ln6 a.keys = true := ln6_iff.2 ha.1
    simp only [rnsame_t, hl, Bool.true_or, cond_true, same, equal]
    by_cases h1 : a.kind = b.kind
    · rw [neF h1, eqT h1]
      cases a.text == b.text with
      | false => rfl
      | true =>
        cases a.keys == b.keys with
        | false => rfl
        | true =>
          simp only [Bool.not_true, cond_false, Bool.true_and]
          by_cases hlen : a.kids.length = b.kids.length
          · rw [neF (by omega), cond_false]
            have := Gr_of (rnsame_loop n ih a b ha.2 hlen ha2 hb2 a.kids.length 0 (by omega) (by omega))
            rw [List.drop_zero, List.drop_zero] at this
            exact this
          · rw [neT (by omega), cond_true, sameW_len hlen]
    · rw [neT h1, eqF h1]
      rfl
def sortN : Nat → Node → Node
  | 0, x => x
  | n + 1, x => bif x.kind == 3 then ⟨x.kind, x.text, Pl.sortD x.keys, (Pl.sortD x.keys).map fun k => sortN n (getV x k)⟩ else ⟨x.kind, x.text, [], x.kids.map (sortN n)⟩
noncomputable def rnsorted_W (n : Nat) : FnW E := fn1 (E := E) .api_Node .api_Node (wf 200 n) (sortN n)
def rnsorted_id : FuncId := 12
noncomputable def rnsorted_O (n : Nat) : Oracle E := orac [(22, rsorted_W), (20, rget_W), (12, rnsorted_W n)] [] [] []
noncomputable def rnsorted_H : Hint E := Hint.mk [(0, [1, 2, 3, 4, 5]), (1, [1, 2, 3, 8])] [] [(0, [(3, some 2, true, .str), (3, some 3, true, .api_Node)]), (1, [(3, some 3, true, .api_Node)])]
noncomputable def rnsorted_C0 (v0 : List (List UInt8)) (v1 : Int) (v2 : Int) (v3 : List UInt8) (v4 : List (List UInt8)) (v5 : List Node) (v6 : Int) (v7 : List UInt8) (v8 : Int) (v9 : List UInt8) (v10 : List (List UInt8)) (v11 : List Node) : ASt E := ASt.mk 71 [(1, .ptr 0 0), (2, .ptr 1 0), (3, .ptr 2 0), (4, .d (.slice .str v0)), (5, .d (.int .i64 v1))] [(0, .box [.d (.int .i64 v2), .d (.str v3), .d (.slice .str v4), .d (.slice .api_Node v5)]), (1, .box [.d (.int .i64 v6), .d (.str v7), .d (.raw (.slice none 0 0)), .d (.raw (.slice none 0 0))]), (2, .box [.d (.int .i64 v8), .d (.str v9), .grow .str v10 3, .grow .api_Node v11 4]), (3, .tail true), (4, .tail true)] 5
noncomputable def rnsorted_C1 (v0 : Int) (v1 : Int) (v2 : List UInt8) (v3 : List (List UInt8)) (v4 : List Node) (v5 : Int) (v6 : List UInt8) (v7 : Int) (v8 : List UInt8) (v9 : List Node) : ASt E := ASt.mk 71 [(1, .ptr 0 0), (2, .ptr 1 0), (3, .ptr 2 0), (8, .d (.int .i64 v0))] [(0, .box [.d (.int .i64 v1), .d (.str v2), .d (.slice .str v3), .d (.slice .api_Node v4)]), (1, .box [.d (.int .i64 v5), .d (.str v6), .d (.raw (.slice none 0 0)), .d (.raw (.slice none 0 0))]), (2, .box [.d (.int .i64 v7), .d (.str v8), .d (.raw (.slice none 0 0)), .grow .api_Node v9 3]), (3, .tail true)] 4
noncomputable def rnsorted_t (_n : Nat) (G : Nat → ASt E → Option (List (TV E))) (x0 : Node) : Option (List (TV E)) :=
  bif (x0.kind == (3 : Int)) then (bif (ln6 x0.keys) then G 0 (rnsorted_C0 (Pl.sortD x0.keys) (0 : Int) x0.kind x0.text x0.keys x0.kids (0 : Int) ([] : List UInt8) x0.kind x0.text ([] : List (List UInt8)) ([] : List Node)) else none) else G 1 (rnsorted_C1 (0 : Int) x0.kind x0.text x0.keys x0.kids (0 : Int) ([] : List UInt8) x0.kind x0.text ([] : List Node))
theorem rnsorted_e (n : Nat) (G : Nat → ASt E → Option (List (TV E))) (x0 : Node) : runE (rnsorted_O n) rnsorted_H G Try.f12 [⟨.api_Node, x0⟩] = rnsorted_t n G x0 := by kernel_rfl
noncomputable def rnsorted_t0 (n : Nat) (G : Nat → ASt E → Option (List (TV E))) (v0 : List (List UInt8)) (v1 : Int) (v2 : Int) (v3 : List UInt8) (v4 : List (List UInt8)) (v5 : List Node) (v6 : Int) (v7 : List UInt8) (v8 : Int) (v9 : List UInt8) (v10 : List (List UInt8)) (v11 : List Node) : Option (List (TV E)) :=
  bif (decide (v1 < (v0.length : Int))) then (bif (decide ((0 : Int) ≤ v1) && decide (v1 < (v0.length : Int))) then (bif ((fun n _ => fit n) (⟨v2, v3, v4, v5⟩ : Node) (List.getD v0 (Int.toNat v1) (dflt .str))) then (bif (decide ((0 : Int) ≤ v1) && decide (v1 < (v0.length : Int))) then (bif (decide ((v10.length + ([(List.getD v0 (Int.toNat v1) (dflt .str))] : List (List UInt8)).length) * 16 ≤ maxBytes)) then (bif ((wf 200 n) (⟨(getV (⟨v2, v3, v4, v5⟩ : Node) (List.getD v0 (Int.toNat v1) (dflt .str))).kind, (getV (⟨v2, v3, v4, v5⟩ : Node) (List.getD v0 (Int.toNat v1) (dflt .str))).text, (getV (⟨v2, v3, v4, v5⟩ : Node) (List.getD v0 (Int.toNat v1) (dflt .str))).keys, (getV (⟨v2, v3, v4, v5⟩ : Node) (List.getD v0 (Int.toNat v1) (dflt .str))).kids⟩ : Node)) then (bif (decide ((v11.length + ([((sortN n) (⟨(getV (⟨v2, v3, v4, v5⟩ : Node) (List.getD v0 (Int.toNat v1) (dflt .str))).kind, (getV (⟨v2, v3, v4, v5⟩ : Node) (List.getD v0 (Int.toNat v1) (dflt .str))).text, (getV (⟨v2, v3, v4, v5⟩ : Node) (List.getD v0 (Int.toNat v1) (dflt .str))).keys, (getV (⟨v2, v3, v4, v5⟩ : Node) (List.getD v0 (Int.toNat v1) (dflt .str))).kids⟩ : Node))] : List Node).length) * 72 ≤ maxBytes)) then G 0 (rnsorted_C0 v0 (w64 (v1 + (1 : Int))) v2 v3 v4 v5 v6 v7 v8 v9 (v10 ++ ([(List.getD v0 (Int.toNat v1) (dflt .str))] : List (List UInt8))) (v11 ++ ([((sortN n) (⟨(getV (⟨v2, v3, v4, v5⟩ : Node) (List.getD v0 (Int.toNat v1) (dflt .str))).kind, (getV (⟨v2, v3, v4, v5⟩ : Node) (List.getD v0 (Int.toNat v1) (dflt .str))).text, (getV (⟨v2, v3, v4, v5⟩ : Node) (List.getD v0 (Int.toNat v1) (dflt .str))).keys, (getV (⟨v2, v3, v4, v5⟩ : Node) (List.getD v0 (Int.toNat v1) (dflt .str))).kids⟩ : Node))] : List Node))) else none) else none) else none) else none) else none) else none) else some [⟨.api_Node, (⟨v8, v9, v10, v11⟩ : Node)⟩]
theorem rnsorted_l0 (n : Nat) (G : Nat → ASt E → Option (List (TV E))) (v0 : List (List UInt8)) (v1 : Int) (v2 : Int) (v3 : List UInt8) (v4 : List (List UInt8)) (v5 : List Node) (v6 : Int) (v7 : List UInt8) (v8 : Int) (v9 : List UInt8) (v10 : List (List UInt8)) (v11 : List Node) : runL (rnsorted_O n) rnsorted_H G Try.f12 0 (rnsorted_C0 v0 v1 v2 v3 v4 v5 v6 v7 v8 v9 v10 v11) = rnsorted_t0 n G v0 v1 v2 v3 v4 v5 v6 v7 v8 v9 v10 v11 := by kernel_rfl
noncomputable def rnsorted_t1 (n : Nat) (G : Nat → ASt E → Option (List (TV E))) (v0 : Int) (v1 : Int) (v2 : List UInt8) (v3 : List (List UInt8)) (v4 : List Node) (v5 : Int) (v6 : List UInt8) (v7 : Int) (v8 : List UInt8) (v9 : List Node) : Option (List (TV E)) :=
  bif (decide (v0 < (v4.length : Int))) then (bif (decide ((0 : Int) ≤ v0) && decide (v0 < (v4.length : Int))) then (bif ((wf 200 n) (⟨(List.getD v4 (Int.toNat v0) (dflt .api_Node)).kind, (List.getD v4 (Int.toNat v0) (dflt .api_Node)).text, (List.getD v4 (Int.toNat v0) (dflt .api_Node)).keys, (List.getD v4 (Int.toNat v0) (dflt .api_Node)).kids⟩ : Node)) then (bif (decide ((v9.length + ([((sortN n) (⟨(List.getD v4 (Int.toNat v0) (dflt .api_Node)).kind, (List.getD v4 (Int.toNat v0) (dflt .api_Node)).text, (List.getD v4 (Int.toNat v0) (dflt .api_Node)).keys, (List.getD v4 (Int.toNat v0) (dflt .api_Node)).kids⟩ : Node))] : List Node).length) * 72 ≤ maxBytes)) then G 1 (rnsorted_C1 (w64 (v0 + (1 : Int))) v1 v2 v3 v4 v5 v6 v7 v8 (v9 ++ ([((sortN n) (⟨(List.getD v4 (Int.toNat v0) (dflt .api_Node)).kind, (List.getD v4 (Int.toNat v0) (dflt .api_Node)).text, (List.getD v4 (Int.toNat v0) (dflt .api_Node)).keys, (List.getD v4 (Int.toNat v0) (dflt .api_Node)).kids⟩ : Node))] : List Node))) else none) else none) else none) else some [⟨.api_Node, (⟨v7, v8, ([] : List (List UInt8)), v9⟩ : Node)⟩]
theorem rnsorted_l1 (n : Nat) (G : Nat → ASt E → Option (List (TV E))) (v0 : Int) (v1 : Int) (v2 : List UInt8) (v3 : List (List UInt8)) (v4 : List Node) (v5 : Int) (v6 : List UInt8) (v7 : Int) (v8 : List UInt8) (v9 : List Node) : runL (rnsorted_O n) rnsorted_H G Try.f12 1 (rnsorted_C1 v0 v1 v2 v3 v4 v5 v6 v7 v8 v9) = rnsorted_t1 n G v0 v1 v2 v3 v4 v5 v6 v7 v8 v9 := by kernel_rfl
theorem rnsorted_f : Try.prog.funcs[12]? = some Try.f12 := by kernel_rfl
theorem rnsorted_n : (Try.f12.name == "runtime.NumGoroutine") = false := by kernel_rfl
theorem rnsorted_b : Try.f12.body.isNone = false := by kernel_rfl
theorem rnsorted_ex : ∃ fn, Try.prog.funcs[12]? = some fn ∧ (fn.name == "runtime.NumGoroutine") = false ∧ fn.body.isNone = false := ⟨Try.f12, rnsorted_f, rnsorted_n, rnsorted_b⟩
theorem rnsorted_hO (n : Nat) (ih : FnOk E rnsorted_id (rnsorted_W n)) : OracleOk E (rnsorted_O n) := orac_ok (.cons rsorted_ok (.cons rget_ok (.cons ih .nil))) .nil .nil .nil
theorem rnsorted_s0 (n : Nat) (ih : FnOk E rnsorted_id (rnsorted_W n)) {res : List (TV E)} {v0 : List (List UInt8)} {v1 : Int} {v2 : Int} {v3 : List UInt8} {v4 : List (List UInt8)} {v5 : List Node} {v6 : Int} {v7 : List UInt8} {v8 : Int} {v9 : List UInt8} {v10 : List (List UInt8)} {v11 : List Node} (h : rnsorted_t0 n (Gr E Try.f12 res) v0 v1 v2 v3 v4 v5 v6 v7 v8 v9 v10 v11 = some res) : Ev E Try.f12 res 0 (rnsorted_C0 v0 v1 v2 v3 v4 v5 v6 v7 v8 v9 v10 v11) := Ev.step (rnsorted_hO n ih) mix ((rnsorted_l0 n _ v0 v1 v2 v3 v4 v5 v6 v7 v8 v9 v10 v11).trans h)
theorem rnsorted_s1 (n : Nat) (ih : FnOk E rnsorted_id (rnsorted_W n)) {res : List (TV E)} {v0 : Int} {v1 : Int} {v2 : List UInt8} {v3 : List (List UInt8)} {v4 : List Node} {v5 : Int} {v6 : List UInt8} {v7 : Int} {v8 : List UInt8} {v9 : List Node} (h : rnsorted_t1 n (Gr E Try.f12 res) v0 v1 v2 v3 v4 v5 v6 v7 v8 v9 = some res) : Ev E Try.f12 res 1 (rnsorted_C1 v0 v1 v2 v3 v4 v5 v6 v7 v8 v9) := Ev.step (rnsorted_hO n ih) mix ((rnsorted_l1 n _ v0 v1 v2 v3 v4 v5 v6 v7 v8 v9).trans h)
theorem rnsorted_ok_of (n : Nat) (ih : FnOk E rnsorted_id (rnsorted_W n)) (h : ∀ (x0 : Node), (wf 200 (n + 1)) x0 = true → rnsorted_t n (Gr E Try.f12 [⟨.api_Node, (sortN (n + 1)) x0⟩]) x0 = some [⟨.api_Node, (sortN (n + 1)) x0⟩]) : FnOk E rnsorted_id (rnsorted_W (n + 1)) := fn1_ok (rnsorted_hO n ih) mix rnsorted_f rnsorted_n rnsorted_b (fun x0 hk => (rnsorted_e n _ x0).trans (h x0 hk))
theorem rnsorted_0 (n : Nat) (ih : FnOk E rnsorted_id (rnsorted_W n)) (x : Node) (hx : wf 200 (n + 1) x = true) (h3 : x.kind = 3) (ks : List (List UInt8)) (hks : ks.length ≤ 200) (hm : ∀ k ∈ ks, k ∈ x.keys) (u0 : Int) (u1 : List UInt8) (v0 : Int) (v1 : List UInt8) :
    ∀ (m i : Nat) (ok : List (List UInt8)) (ov : List Node), ks.length - i = m → i ≤ ks.length → ok.length = i → ov.length = i →
      Ev E Try.f12 [⟨.api_Node, (⟨v0, v1, ok ++ ks.drop i, ov ++ (ks.drop i).map fun k => sortN n (getV x k)⟩ : Node)⟩] 0 (rnsorted_C0 ks i x.kind x.text x.keys x.kids u0 u1 v0 v1 ok ov) := by
  have fx := wf_fit hx (by decide)
  intro m
  induction m with
  | zero =>
    intro i ok ov h1 h2 h3 h4
    refine rnsorted_s0 n ih ?_
    simp only [rnsorted_t0, dge (show ks.length ≤ i by omega), cond_false, List.drop_eq_nil_of_le (show ks.length ≤ i by omega), List.append_nil, List.map_nil]
  | succ m ih2 =>
    intro i ok ov h1 h2 h3' h4
    have hi : i < ks.length := by omega
    have e1 : decide ((ok.length + [ks[i]].length) * 16 ≤ maxBytes) = true := dT (by rw [mb, List.length_singleton]; omega)
    have e2 : ∀ v : Node, decide ((ov.length + [v].length) * 72 ≤ maxBytes) = true := fun v => dT (by rw [mb, List.length_singleton]; omega)
    have hw : wf 200 n (getV x ks[i]) = true := wf_get hx (getB_of hx h3 (hm _ (List.getElem_mem hi)))
    refine rnsorted_s0 n ih ?_
    simp only [rnsorted_t0, dlt hi, d0, gd ks _ i hi, Bool.and_self, cond_true, node_eta, fx, e1, e2, hw]
    rw [← List.getElem_cons_drop hi, w64_id (by omega) (by omega)]
    have := Gr_of (ih2 (i + 1) (ok ++ [ks[i]]) (ov ++ [sortN n (getV x ks[i])]) (by omega) (by omega) (by simp [h3']) (by simp [h4]))
    rw [List.append_assoc, List.append_assoc] at this
    exact this
theorem rnsorted_1 (n : Nat) (ih : FnOk E rnsorted_id (rnsorted_W n)) (x : Node) (hx : wf 200 (n + 1) x = true) (u0 : Int) (u1 : List UInt8) (v0 : Int) (v1 : List UInt8) :
    ∀ (m i : Nat) (ov : List Node), x.kids.length - i = m → i ≤ x.kids.length → ov.length = i →
      Ev E Try.f12 [⟨.api_Node, (⟨v0, v1, [], ov ++ (x.kids.drop i).map (sortN n)⟩ : Node)⟩] 1 (rnsorted_C1 i x.kind x.text x.keys x.kids u0 u1 v0 v1 ov) := by
  have hw := wf_iff.1 hx
  intro m
  induction m with
  | zero =>
    intro i ov h1 h2 h3
    refine rnsorted_s1 n ih ?_
    simp only [rnsorted_t1, dge (show x.kids.length ≤ i by omega), cond_false, List.drop_eq_nil_of_le (show x.kids.length ≤ i by omega), List.append_nil, List.map_nil]
  | succ m ih2 =>
    intro i ov h1 h2 h3
    have hi : i < x.kids.length := by omega
    have e2 : ∀ v : Node, decide ((ov.length + [v].length) * 72 ≤ maxBytes) = true := fun v => dT (by rw [mb, List.length_singleton]; omega)
    have hk : wf 200 n x.kids[i] = true := hw.2.2.2.2.2 _ (List.getElem_mem hi)
    refine rnsorted_s1 n ih ?_
    simp only [rnsorted_t1, dlt hi, d0, gd x.kids _ i hi, Bool.and_self, cond_true, node_eta, e2, hk]
    rw [← List.getElem_cons_drop hi, w64_id (by omega) (by omega)]
    have := Gr_of (ih2 (i + 1) (ov ++ [sortN n x.kids[i]]) (by omega) (by omega) (by simp [h3]))
    rw [List.append_assoc] at this
    exact this
theorem rnsorted_ok (n : Nat) : FnOk E rnsorted_id (rnsorted_W n) := by
  induction n with
  | zero => exact fn1_bot rnsorted_ex fun x => rfl
  | succ n ih =>
    refine rnsorted_ok_of n ih fun x hk => ?_
    have hw := wf_iff.1 hk
    simp only [rnsorted_t, sortN]
    by_cases h3 : x.kind = 3
    · have hl : ln6 x.keys = true := ln6_iff.2 (by omega)
      have hs := Pl.sortD_len x.keys
      rw [eqT h3, cond_true, hl, cond_true, cond_true]
      have := Gr_of (rnsorted_0 n ih x hk h3 (Pl.sortD x.keys) (by omega) (fun k hk => Pl.sortD_mem.1 hk) 0 [] x.kind x.text _ 0 [] [] rfl (Nat.zero_le _) rfl rfl)
      rw [List.drop_zero, List.nil_append, List.nil_append] at this
      exact this
    · rw [eqF h3, cond_false, cond_false]
      have := Gr_of (rnsorted_1 n ih x hk 0 [] x.kind x.text _ 0 [] rfl (Nat.zero_le _) rfl)
      rw [List.drop_zero, List.nil_append] at this
      exact this
/-! How many nodes may still come -/
def kidsV (g : Node → Int → Int) : List Node → Int → Int
  | [], l => l
  | k :: t, l => bif decide (g k l < 0) then -1 else kidsV g t (g k l)
def badA (x : Node) (deep l : Int) : Bool := bif (bif (bif decide (l < 0) then true else decide (12 < deep)) then true else decide (x.kind < 0)) then true else decide (3 < x.kind)
def badB (x : Node) : Bool := bif (bif (bif x.kind != 1 then decide ((0 : Int) < (x.text.length : Int)) else false) then true else (bif x.kind != 3 then decide ((0 : Int) < (x.keys.length : Int)) else false)) then true else (bif decide (x.kind < 2) then decide ((0 : Int) < (x.kids.length : Int)) else false)
def badC (x : Node) (l : Int) : Bool := bif x.kind == 3 then (bif (bif (x.keys.length : Int) != (x.kids.length : Int) then true else decide (l < (x.kids.length : Int))) then true else ((Pl.sortD x.keys).length : Int) != (x.keys.length : Int)) else false
def leftV : Nat → Node → Int → Int → Int
  | 0, _, _, _ => -1
  | n + 1, x, deep, left => bif badA x deep (left - 1) then -1 else bif badB x then -1 else bif badC x (left - 1) then -1 else kidsV (fun k l => leftV n k (deep + 1) l) x.kids (left - 1)
theorem kidsV_le {g : Node → Int → Int} (hg : ∀ k l, 0 ≤ g k l → g k l + 1 ≤ l) : ∀ (ks : List Node) (l : Int), 0 ≤ kidsV g ks l → kidsV g ks l + ks.length ≤ l ∧ ∀ k ∈ ks, ∃ l', 0 ≤ g k l' ∧ l' ≤ l
  | [], l, _ => ⟨by simp [kidsV], fun k hk => by cases hk⟩
  | k :: t, l, h => by
    unfold kidsV at h ⊢
    by_cases hk : g k l < 0
    · rw [dT hk, cond_true] at h
      omega
    · rw [dF hk, cond_false] at h ⊢
      obtain ⟨h1, h2⟩ := kidsV_le hg t (g k l) h
      have h3 := hg k l (by omega)
      refine ⟨by rw [List.length_cons]; omega, fun y hy => ?_⟩
      rcases List.mem_cons.1 hy with rfl | hy
      · exact ⟨l, by omega, Int.le_refl _⟩
      · obtain ⟨l', h4, h5⟩ := h2 y hy
        exact ⟨l', h4, by omega⟩
theorem leftV_le : ∀ (n : Nat) (x : Node) (d l : Int), 0 ≤ leftV n x d l → leftV n x d l + 1 ≤ l
  | 0, _, _, _, h => by simp [leftV] at h
  | n + 1, x, d, l, h => by
    unfold leftV at h ⊢
    cases h1 : badA x d (l - 1) with
    | true => rw [h1, cond_true] at h; omega
    | false =>
      cases h2 : badB x with
      | true => rw [h1, h2, cond_false, cond_true] at h; omega
      | false =>
        cases h3 : badC x (l - 1) with
        | true => rw [h1, h2, h3, cond_false, cond_false, cond_true] at h; omega
        | false =>
          rw [h1, h2, h3, cond_false, cond_false, cond_false] at h
          simp only [cond_false]
          have := (kidsV_le (fun k l h => leftV_le n k (d + 1) l h) x.kids (l - 1) h).1
          omega
def okL (n : Nat) (_ : Node) (deep left : Int) : Bool := decide (1 ≤ n) && decide (n ≤ 13) && decide (deep + n = 14) && decide (-10 ≤ left) && decide (left ≤ 100000)
theorem okL_iff {n : Nat} {x : Node} {d l : Int} : okL n x d l = true ↔ (((1 ≤ n ∧ n ≤ 13) ∧ d + n = 14) ∧ -10 ≤ l) ∧ l ≤ 100000 := by simp [okL]
noncomputable def left_W (n : Nat) : FnW E := fn3 (E := E) .api_Node .int .int .int (okL n) (leftV n)
def left_id : FuncId := 13
noncomputable def left_O (n : Nat) : Oracle E := orac [(22, rsorted_W), (13, left_W n)] [] [] []
noncomputable def left_H : Hint E := Hint.mk [(0, [1, 2, 3, 7])] [] []
noncomputable def left_C0 (v0 : Int) (v1 : Int) (v2 : Int) (v3 : Int) (v4 : List UInt8) (v5 : List (List UInt8)) (v6 : List Node) : ASt E := ASt.mk 105 [(1, .d (.int .i64 v0)), (2, .d (.int .i64 v1)), (3, .ptr 0 0), (7, .d (.int .i64 v2))] [(0, .box [.d (.int .i64 v3), .d (.str v4), .d (.slice .str v5), .d (.slice .api_Node v6)])] 1
noncomputable def left_t (_n : Nat) (G : Nat → ASt E → Option (List (TV E))) (x0 : Node) (x1 : Int) (x2 : Int) : Option (List (TV E)) :=
  bif (bif (bif (bif (decide ((w64 (x2 - (1 : Int))) < (0 : Int))) then true else (decide ((12 : Int) < x1))) then true else (decide (x0.kind < (0 : Int)))) then true else (decide ((3 : Int) < x0.kind))) then some [⟨.int, (-1 : Int)⟩] else (bif (bif (bif (bif (x0.kind != (1 : Int)) then (decide ((0 : Int) < (x0.text.length : Int))) else false) then true else (bif (x0.kind != (3 : Int)) then (decide ((0 : Int) < (x0.keys.length : Int))) else false)) then true else (bif (decide (x0.kind < (2 : Int))) then (decide ((0 : Int) < (x0.kids.length : Int))) else false)) then some [⟨.int, (-1 : Int)⟩] else (bif ((ln6 x0.keys) || !((x0.kind == (3 : Int)) && (!(bif ((x0.keys.length : Int) != (x0.kids.length : Int)) then true else (decide ((w64 (x2 - (1 : Int))) < (x0.kids.length : Int))))))) then (bif (bif (x0.kind == (3 : Int)) then (bif (bif ((x0.keys.length : Int) != (x0.kids.length : Int)) then true else (decide ((w64 (x2 - (1 : Int))) < (x0.kids.length : Int)))) then true else (((Pl.sortD x0.keys).length : Int) != (x0.keys.length : Int))) else false) then some [⟨.int, (-1 : Int)⟩] else G 0 (left_C0 x1 (w64 (x2 - (1 : Int))) (0 : Int) x0.kind x0.text x0.keys x0.kids)) else none))
theorem left_e (n : Nat) (G : Nat → ASt E → Option (List (TV E))) (x0 : Node) (x1 : Int) (x2 : Int) : runE (left_O n) left_H G Try.f13 [⟨.api_Node, x0⟩, ⟨.int, x1⟩, ⟨.int, x2⟩] = left_t n G x0 x1 x2 := by kernel_rfl
noncomputable def left_t0 (n : Nat) (G : Nat → ASt E → Option (List (TV E))) (v0 : Int) (v1 : Int) (v2 : Int) (v3 : Int) (v4 : List UInt8) (v5 : List (List UInt8)) (v6 : List Node) : Option (List (TV E)) :=
  bif (decide (v2 < (v6.length : Int))) then (bif (decide ((0 : Int) ≤ v2) && decide (v2 < (v6.length : Int))) then (bif ((okL n) (⟨(List.getD v6 (Int.toNat v2) (dflt .api_Node)).kind, (List.getD v6 (Int.toNat v2) (dflt .api_Node)).text, (List.getD v6 (Int.toNat v2) (dflt .api_Node)).keys, (List.getD v6 (Int.toNat v2) (dflt .api_Node)).kids⟩ : Node) (w64 (v0 + (1 : Int))) v1) then (bif (decide (((leftV n) (⟨(List.getD v6 (Int.toNat v2) (dflt .api_Node)).kind, (List.getD v6 (Int.toNat v2) (dflt .api_Node)).text, (List.getD v6 (Int.toNat v2) (dflt .api_Node)).keys, (List.getD v6 (Int.toNat v2) (dflt .api_Node)).kids⟩ : Node) (w64 (v0 + (1 : Int))) v1) < (0 : Int))) then some [⟨.int, (-1 : Int)⟩] else G 0 (left_C0 v0 ((leftV n) (⟨(List.getD v6 (Int.toNat v2) (dflt .api_Node)).kind, (List.getD v6 (Int.toNat v2) (dflt .api_Node)).text, (List.getD v6 (Int.toNat v2) (dflt .api_Node)).keys, (List.getD v6 (Int.toNat v2) (dflt .api_Node)).kids⟩ : Node) (w64 (v0 + (1 : Int))) v1) (w64 (v2 + (1 : Int))) v3 v4 v5 v6)) else none) else none) else some [⟨.int, v1⟩]
theorem left_l0 (n : Nat) (G : Nat → ASt E → Option (List (TV E))) (v0 : Int) (v1 : Int) (v2 : Int) (v3 : Int) (v4 : List UInt8) (v5 : List (List UInt8)) (v6 : List Node) : runL (left_O n) left_H G Try.f13 0 (left_C0 v0 v1 v2 v3 v4 v5 v6) = left_t0 n G v0 v1 v2 v3 v4 v5 v6 := by kernel_rfl
theorem left_f : Try.prog.funcs[13]? = some Try.f13 := by kernel_rfl
theorem left_n : (Try.f13.name == "runtime.NumGoroutine") = false := by kernel_rfl
theorem left_b : Try.f13.body.isNone = false := by kernel_rfl
theorem left_ex : ∃ fn, Try.prog.funcs[13]? = some fn ∧ (fn.name == "runtime.NumGoroutine") = false ∧ fn.body.isNone = false := ⟨Try.f13, left_f, left_n, left_b⟩
theorem left_hO (n : Nat) (ih : FnOk E left_id (left_W n)) : OracleOk E (left_O n) := orac_ok (.cons rsorted_ok (.cons ih .nil)) .nil .nil .nil
theorem left_s0 (n : Nat) (ih : FnOk E left_id (left_W n)) {res : List (TV E)} {v0 : Int} {v1 : Int} {v2 : Int} {v3 : Int} {v4 : List UInt8} {v5 : List (List UInt8)} {v6 : List Node} (h : left_t0 n (Gr E Try.f13 res) v0 v1 v2 v3 v4 v5 v6 = some res) : Ev E Try.f13 res 0 (left_C0 v0 v1 v2 v3 v4 v5 v6) := Ev.step (left_hO n ih) mix ((left_l0 n _ v0 v1 v2 v3 v4 v5 v6).trans h)
theorem left_ok_of (n : Nat) (ih : FnOk E left_id (left_W n)) (h : ∀ (x0 : Node) (x1 : Int) (x2 : Int), (okL (n + 1)) x0 x1 x2 = true → left_t n (Gr E Try.f13 [⟨.int, (leftV (n + 1)) x0 x1 x2⟩]) x0 x1 x2 = some [⟨.int, (leftV (n + 1)) x0 x1 x2⟩]) : FnOk E left_id (left_W (n + 1)) := fn3_ok (left_hO n ih) mix left_f left_n left_b (fun x0 x1 x2 hk => (left_e n _ x0 x1 x2).trans (h x0 x1 x2 hk))
theorem left_loop (n : Nat) (ih : FnOk E left_id (left_W n)) (x : Node) (d : Int) (hn1 : 1 ≤ n) (hn2 : n ≤ 12) (hd : d + 1 + n = 14) : ∀ (m i : Nat) (l : Int), x.kids.length - i = m → i ≤ x.kids.length → 0 ≤ l → l + i ≤ 100000 →
    Ev E Try.f13 [⟨.int, kidsV (fun k l => leftV n k (d + 1) l) (x.kids.drop i) l⟩] 0 (left_C0 d l i x.kind x.text x.keys x.kids) := by
  intro m
  induction m with
  | zero =>
    intro i l h1 h2 h3 h4
    refine left_s0 n ih ?_
    simp only [left_t0, dge (show x.kids.length ≤ i by omega), cond_false, List.drop_eq_nil_of_le (show x.kids.length ≤ i by omega)]
    rfl
  | succ m ih2 =>
    intro i l h1 h2 h3 h4
    have hi : i < x.kids.length := by omega
    have e1 : w64 (d + 1) = d + 1 := w64_id (by omega) (by omega)
    have e2 : okL n x.kids[i] (d + 1) l = true := okL_iff.2 ⟨⟨⟨⟨hn1, by omega⟩, by omega⟩, by omega⟩, by omega⟩
    have hle := leftV_le n x.kids[i] (d + 1) l
    refine left_s0 n ih ?_
    simp only [left_t0, dlt hi, d0, gd x.kids _ i hi, Bool.and_self, cond_true, node_eta, e1, e2]
    rw [← List.getElem_cons_drop hi]
    simp only [kidsV]
    by_cases hk : leftV n x.kids[i] (d + 1) l < 0
    · rw [dT hk]; rfl
    · rw [dF hk, cond_false, cond_false, w64_id (by omega) (by omega)]
      exact Gr_of (ih2 (i + 1) _ (by omega) (by omega) (by omega) (by have := hle (by omega); omega))
theorem left_ok (n : Nat) : FnOk E left_id (left_W n) := by
  induction n with
  | zero => exact fn3_bot left_ex fun x y z => by simp [okL]
  | succ n ih =>
    refine left_ok_of n ih fun x d l hk => ?_
    have hk := okL_iff.1 hk
    have e1 : w64 (l - 1) = l - 1 := w64_id (by omega) (by omega)
    simp only [left_t, e1, leftV]
    change (bif badA x d (l - 1) then _ else bif badB x then _ else _) = _
    cases h1 : badA x d (l - 1) with
    | true => rfl
    | false =>
      cases h2 : badB x with
      | true => rfl
      | false =>
        simp only [cond_false]
        have hA : ¬ l - 1 < 0 ∧ ¬ 12 < d := by
          unfold badA at h1
          by_cases a1 : l - 1 < 0
          · rw [dT a1] at h1; cases h1
          · by_cases a2 : 12 < d
            · rw [dF a1, dT a2] at h1; cases h1
            · exact ⟨a1, a2⟩
        have hcond : (ln6 x.keys || !(x.kind == 3 && !(bif (x.keys.length : Int) != (x.kids.length : Int) then true else decide (l - 1 < (x.kids.length : Int))))) = true := by
          by_cases a1 : (x.keys.length : Int) = x.kids.length
          · by_cases a2 : l - 1 < (x.kids.length : Int)
            · rw [neF a1, dT a2]; simp
            · rw [ln6_iff.2 (by omega)]; rfl
          · rw [neT a1]; simp
        rw [hcond, cond_true]
        change (bif badC x (l - 1) then _ else _) = _
        cases h3 : badC x (l - 1) with
        | true => rfl
        | false =>
          simp only [cond_false]
          have := Gr_of (left_loop n ih x d (by omega) (by omega) (by omega) x.kids.length 0 (l - 1) (by omega) (by omega) (by omega) (by omega))
          rw [List.drop_zero] at this
          exact this
def shortV : Nat → Node → Bool
  | 0, _ => false
  | n + 1, x => decide (x.text.length ≤ 200) && (x.keys.all (fun k => decide (k.length ≤ 200)) && x.kids.all (shortV n))
noncomputable def short_W (n : Nat) : FnW E := fn1 (E := E) .api_Node .bool (dp n) (shortV n)
def short_id : FuncId := 14
noncomputable def short_O (n : Nat) : Oracle E := orac [(14, short_W n)] [] [] []
noncomputable def short_H : Hint E := Hint.mk [(0, [1, 3]), (1, [1, 4])] [] []
noncomputable def short_C0 (v0 : Int) (v1 : Int) (v2 : List UInt8) (v3 : List (List UInt8)) (v4 : List Node) : ASt E := ASt.mk 37 [(1, .ptr 0 0), (3, .d (.int .i64 v0))] [(0, .box [.d (.int .i64 v1), .d (.str v2), .d (.slice .str v3), .d (.slice .api_Node v4)])] 1
noncomputable def short_C1 (v0 : Int) (v1 : Int) (v2 : List UInt8) (v3 : List (List UInt8)) (v4 : List Node) : ASt E := ASt.mk 37 [(1, .ptr 0 0), (4, .d (.int .i64 v0))] [(0, .box [.d (.int .i64 v1), .d (.str v2), .d (.slice .str v3), .d (.slice .api_Node v4)])] 1
noncomputable def short_t (_n : Nat) (G : Nat → ASt E → Option (List (TV E))) (x0 : Node) : Option (List (TV E)) :=
  bif (decide ((200 : Int) < (x0.text.length : Int))) then some [⟨.bool, false⟩] else G 0 (short_C0 (0 : Int) x0.kind x0.text x0.keys x0.kids)
theorem short_e (n : Nat) (G : Nat → ASt E → Option (List (TV E))) (x0 : Node) : runE (short_O n) short_H G Try.f14 [⟨.api_Node, x0⟩] = short_t n G x0 := by kernel_rfl
noncomputable def short_t0 (_n : Nat) (G : Nat → ASt E → Option (List (TV E))) (v0 : Int) (v1 : Int) (v2 : List UInt8) (v3 : List (List UInt8)) (v4 : List Node) : Option (List (TV E)) :=
  bif (decide (v0 < (v3.length : Int))) then (bif (decide ((0 : Int) ≤ v0) && decide (v0 < (v3.length : Int))) then (bif (decide ((200 : Int) < ((List.getD v3 (Int.toNat v0) (dflt .str)).length : Int))) then some [⟨.bool, false⟩] else G 0 (short_C0 (w64 (v0 + (1 : Int))) v1 v2 v3 v4)) else none) else G 1 (short_C1 (0 : Int) v1 v2 v3 v4)
theorem short_l0 (n : Nat) (G : Nat → ASt E → Option (List (TV E))) (v0 : Int) (v1 : Int) (v2 : List UInt8) (v3 : List (List UInt8)) (v4 : List Node) : runL (short_O n) short_H G Try.f14 0 (short_C0 v0 v1 v2 v3 v4) = short_t0 n G v0 v1 v2 v3 v4 := by kernel_rfl
noncomputable def short_t1 (n : Nat) (G : Nat → ASt E → Option (List (TV E))) (v0 : Int) (v1 : Int) (v2 : List UInt8) (v3 : List (List UInt8)) (v4 : List Node) : Option (List (TV E)) :=
  bif (decide (v0 < (v4.length : Int))) then (bif (decide ((0 : Int) ≤ v0) && decide (v0 < (v4.length : Int))) then (bif ((dp n) (⟨(List.getD v4 (Int.toNat v0) (dflt .api_Node)).kind, (List.getD v4 (Int.toNat v0) (dflt .api_Node)).text, (List.getD v4 (Int.toNat v0) (dflt .api_Node)).keys, (List.getD v4 (Int.toNat v0) (dflt .api_Node)).kids⟩ : Node)) then (bif (!((shortV n) (⟨(List.getD v4 (Int.toNat v0) (dflt .api_Node)).kind, (List.getD v4 (Int.toNat v0) (dflt .api_Node)).text, (List.getD v4 (Int.toNat v0) (dflt .api_Node)).keys, (List.getD v4 (Int.toNat v0) (dflt .api_Node)).kids⟩ : Node))) then some [⟨.bool, false⟩] else G 1 (short_C1 (w64 (v0 + (1 : Int))) v1 v2 v3 v4)) else none) else none) else some [⟨.bool, true⟩]
theorem short_l1 (n : Nat) (G : Nat → ASt E → Option (List (TV E))) (v0 : Int) (v1 : Int) (v2 : List UInt8) (v3 : List (List UInt8)) (v4 : List Node) : runL (short_O n) short_H G Try.f14 1 (short_C1 v0 v1 v2 v3 v4) = short_t1 n G v0 v1 v2 v3 v4 := by kernel_rfl
theorem short_f : Try.prog.funcs[14]? = some Try.f14 := by kernel_rfl
theorem short_n : (Try.f14.name == "runtime.NumGoroutine") = false := by kernel_rfl
theorem short_b : Try.f14.body.isNone = false := by kernel_rfl
theorem short_ex : ∃ fn, Try.prog.funcs[14]? = some fn ∧ (fn.name == "runtime.NumGoroutine") = false ∧ fn.body.isNone = false := ⟨Try.f14, short_f, short_n, short_b⟩
theorem short_hO (n : Nat) (ih : FnOk E short_id (short_W n)) : OracleOk E (short_O n) := orac_ok (.cons ih .nil) .nil .nil .nil
theorem short_s0 (n : Nat) (ih : FnOk E short_id (short_W n)) {res : List (TV E)} {v0 : Int} {v1 : Int} {v2 : List UInt8} {v3 : List (List UInt8)} {v4 : List Node} (h : short_t0 n (Gr E Try.f14 res) v0 v1 v2 v3 v4 = some res) : Ev E Try.f14 res 0 (short_C0 v0 v1 v2 v3 v4) := Ev.step (short_hO n ih) mix ((short_l0 n _ v0 v1 v2 v3 v4).trans h)
theorem short_s1 (n : Nat) (ih : FnOk E short_id (short_W n)) {res : List (TV E)} {v0 : Int} {v1 : Int} {v2 : List UInt8} {v3 : List (List UInt8)} {v4 : List Node} (h : short_t1 n (Gr E Try.f14 res) v0 v1 v2 v3 v4 = some res) : Ev E Try.f14 res 1 (short_C1 v0 v1 v2 v3 v4) := Ev.step (short_hO n ih) mix ((short_l1 n _ v0 v1 v2 v3 v4).trans h)
theorem short_ok_of (n : Nat) (ih : FnOk E short_id (short_W n)) (h : ∀ (x0 : Node), (dp (n + 1)) x0 = true → short_t n (Gr E Try.f14 [⟨.bool, (shortV (n + 1)) x0⟩]) x0 = some [⟨.bool, (shortV (n + 1)) x0⟩]) : FnOk E short_id (short_W (n + 1)) := fn1_ok (short_hO n ih) mix short_f short_n short_b (fun x0 hk => (short_e n _ x0).trans (h x0 hk))
theorem d200 {n : Nat} (h : n ≤ 200) : decide ((200 : Int) < (n : Int)) = false := dF (by omega)
theorem d200' {n : Nat} (h : ¬ n ≤ 200) : decide ((200 : Int) < (n : Int)) = true := dT (by omega)
theorem short_1 (n : Nat) (ih : FnOk E short_id (short_W n)) (x : Node) (hl : x.kids.length ≤ 1000000) (hd : ∀ y ∈ x.kids, dp n y = true) : ∀ (m i : Nat), x.kids.length - i = m → i ≤ x.kids.length →
    Ev E Try.f14 [⟨.bool, (x.kids.drop i).all (shortV n)⟩] 1 (short_C1 i x.kind x.text x.keys x.kids) := by
  intro m
  induction m with
  | zero =>
    intro i h1 h2
    refine short_s1 n ih ?_
    simp only [short_t1, dge (show x.kids.length ≤ i by omega), cond_false, List.drop_eq_nil_of_le (show x.kids.length ≤ i by omega)]
    rfl
  | succ m ih2 =>
    intro i h1 h2
    have hi : i < x.kids.length := by omega
    refine short_s1 n ih ?_
    simp only [short_t1, dlt hi, d0, gd x.kids _ i hi, Bool.and_self, cond_true, node_eta, hd _ (List.getElem_mem hi)]
    rw [← List.getElem_cons_drop hi, w64_id (by omega) (by omega), List.all_cons]
    cases shortV n x.kids[i] with
    | false => rfl
    | true =>
      simp only [Bool.not_true, cond_false, Bool.true_and]
      exact Gr_of (ih2 (i + 1) (by omega) (by omega))
theorem short_0 (n : Nat) (ih : FnOk E short_id (short_W n)) (x : Node) (hk : x.keys.length ≤ 1000000) (hl : x.kids.length ≤ 1000000) (hd : ∀ y ∈ x.kids, dp n y = true) : ∀ (m i : Nat), x.keys.length - i = m → i ≤ x.keys.length →
    Ev E Try.f14 [⟨.bool, (x.keys.drop i).all (fun k => decide (k.length ≤ 200)) && x.kids.all (shortV n)⟩] 0 (short_C0 i x.kind x.text x.keys x.kids) := by
  intro m
  induction m with
  | zero =>
    intro i h1 h2
    refine short_s0 n ih ?_
    simp only [short_t0, dge (show x.keys.length ≤ i by omega), cond_false, List.drop_eq_nil_of_le (show x.keys.length ≤ i by omega)]
    have := Gr_of (short_1 n ih x hl hd x.kids.length 0 (by omega) (by omega))
    rw [List.drop_zero] at this
    exact this
  | succ m ih2 =>
    intro i h1 h2
    have hi : i < x.keys.length := by omega
    refine short_s0 n ih ?_
    simp only [short_t0, dlt hi, d0, gd x.keys _ i hi, Bool.and_self, cond_true]
    rw [← List.getElem_cons_drop hi, w64_id (by omega) (by omega), List.all_cons]
    by_cases h : x.keys[i].length ≤ 200
    · rw [d200 h, cond_false, dT h, Bool.true_and]
      exact Gr_of (ih2 (i + 1) (by omega) (by omega))
    · rw [d200' h, cond_true, dF h]; rfl
theorem short_ok (n : Nat) : FnOk E short_id (short_W n) := by
  induction n with
  | zero => exact fn1_bot short_ex fun x => rfl
  | succ n ih =>
    refine short_ok_of n ih fun x hk => ?_
    have hk := dp_iff.1 hk
    simp only [short_t, shortV]
    by_cases h : x.text.length ≤ 200
    · rw [d200 h, cond_false, dT h, Bool.true_and]
      have := Gr_of (short_0 n ih x hk.1.1 hk.1.2 hk.2 x.keys.length 0 (by omega) (by omega))
      rw [List.drop_zero] at this
      exact this
    · rw [d200' h, cond_true, dF h]; rfl
theorem left_wf : ∀ (n : Nat) (x : Node) (d l : Int), d + (n + 1 : Nat) = 14 → l ≤ 201 → 0 ≤ leftV (n + 1) x d l → dp n x = true ∧ (shortV n x = true → wf 200 n x = true)
  | n, x, d, l, hd, hl, h => by
    unfold leftV at h
    cases h1 : badA x d (l - 1) with
    | true => rw [h1, cond_true] at h; omega
    | false =>
      cases h2 : badB x with
      | true => rw [h1, h2, cond_false, cond_true] at h; omega
      | false =>
        cases h3 : badC x (l - 1) with
        | true => rw [h1, h2, h3, cond_false, cond_false, cond_true] at h; omega
        | false =>
          rw [h1, h2, h3, cond_false, cond_false, cond_false] at h
          have hA : ¬ 12 < d := by
            intro a2
            unfold badA at h1
            rw [dT a2] at h1
            cases hx : decide (l - 1 < 0) <;> rw [hx] at h1 <;> cases h1
          obtain ⟨m, rfl⟩ : ∃ m, n = m + 1 := ⟨n - 1, by omega⟩
          obtain ⟨q1, q2⟩ := kidsV_le (fun k l h => leftV_le (m + 1) k (d + 1) l h) x.kids (l - 1) h
          have hrec : ∀ y ∈ x.kids, dp m y = true ∧ (shortV m y = true → wf 200 m y = true) := fun y hy => by
            obtain ⟨l', h4, h5⟩ := q2 y hy
            exact left_wf m y (d + 1) l' (by omega) (by omega) h4
          have hkeys : (x.kind = 3 → x.keys.length = x.kids.length) ∧ (x.kind ≠ 3 → x.keys.length = 0) := by
            constructor
            · intro e
              unfold badC at h3
              rw [eqT e, cond_true] at h3
              by_cases a1 : (x.keys.length : Int) = x.kids.length
              · omega
              · rw [neT a1] at h3; cases h3
            · intro e
              unfold badB at h2
              rw [neT e, cond_true] at h2
              by_cases a1 : (0 : Int) < (x.keys.length : Int)
              · rw [dT a1] at h2
                cases hx : (bif x.kind != 1 then decide ((0 : Int) < (x.text.length : Int)) else false) <;> rw [hx] at h2 <;> cases h2
              · omega
          have hk : x.keys.length ≤ 200 := by
            by_cases e : x.kind = 3
            · have := hkeys.1 e; omega
            · have := hkeys.2 e; omega
          refine ⟨dp_iff.2 ⟨⟨by omega, by omega⟩, fun y hy => (hrec y hy).1⟩, fun hs => ?_⟩
          simp only [shortV, Bool.and_eq_true, decide_eq_true_eq, List.all_eq_true] at hs
          exact wf_iff.2 ⟨hk, by omega, hkeys.1, hs.1, hs.2.1, fun y hy => (hrec y hy).2 (hs.2.2 y hy)⟩
  termination_by n => n
def okSm (_ : Node) (m : Int) : Bool := decide (m = 200)
def smallV (x : Node) (m : Int) : Bool := bif decide (0 ≤ leftV 13 x 1 m) then shortV 12 x else false
noncomputable def small_W : FnW E := fn2 (E := E) .api_Node .int .bool okSm smallV
def small_id : FuncId := 4
noncomputable def small_O : Oracle E := orac [(13, left_W 13), (14, short_W 12)] [] [] []
noncomputable def small_H : Hint E := Hint.mk [] [] []
noncomputable def small_t (_G : Nat → ASt E → Option (List (TV E))) (x0 : Node) (x1 : Int) : Option (List (TV E)) :=
  bif ((okL 13) (⟨x0.kind, x0.text, x0.keys, x0.kids⟩ : Node) (1 : Int) x1) then (bif (((dp 12) (⟨x0.kind, x0.text, x0.keys, x0.kids⟩ : Node)) || !(decide ((0 : Int) ≤ ((leftV 13) (⟨x0.kind, x0.text, x0.keys, x0.kids⟩ : Node) (1 : Int) x1)))) then some [⟨.bool, (bif (decide ((0 : Int) ≤ ((leftV 13) (⟨x0.kind, x0.text, x0.keys, x0.kids⟩ : Node) (1 : Int) x1))) then ((shortV 12) (⟨x0.kind, x0.text, x0.keys, x0.kids⟩ : Node)) else false)⟩] else none) else none
theorem small_e (G : Nat → ASt E → Option (List (TV E))) (x0 : Node) (x1 : Int) : runE small_O small_H G Try.f4 [⟨.api_Node, x0⟩, ⟨.int, x1⟩] = small_t G x0 x1 := by kernel_rfl
theorem small_f : Try.prog.funcs[4]? = some Try.f4 := by kernel_rfl
theorem small_n : (Try.f4.name == "runtime.NumGoroutine") = false := by kernel_rfl
theorem small_b : Try.f4.body.isNone = false := by kernel_rfl
theorem small_ex : ∃ fn, Try.prog.funcs[4]? = some fn ∧ (fn.name == "runtime.NumGoroutine") = false ∧ fn.body.isNone = false := ⟨Try.f4, small_f, small_n, small_b⟩
theorem small_hO : OracleOk E small_O := orac_ok (.cons (left_ok 13) (.cons (short_ok 12) .nil)) .nil .nil .nil
theorem small_ok_of (h : ∀ (x0 : Node) (x1 : Int), okSm x0 x1 = true → small_t (Gr E Try.f4 [⟨.bool, smallV x0 x1⟩]) x0 x1 = some [⟨.bool, smallV x0 x1⟩]) : FnOk E small_id small_W := fn2_ok small_hO mix small_f small_n small_b (fun x0 x1 hk => (small_e _ x0 x1).trans (h x0 x1 hk))
theorem small_ok : FnOk E small_id small_W := small_ok_of fun x m hk => by
  have hm : m = 200 := by simpa [okSm] using hk
  subst hm
  have e1 : okL 13 x 1 200 = true := okL_iff.2 (by decide)
  have e2 : (dp 12 x || !(decide (0 ≤ leftV 13 x 1 200))) = true := by
    by_cases h : 0 ≤ leftV 13 x 1 200
    · rw [(left_wf 12 x 1 200 (by decide) (by decide) h).1]; rfl
    · rw [dF h]; simp
  simp only [small_t, node_eta, e1, e2, cond_true]
  rfl
theorem small_wf {x : Node} (h : smallV x 200 = true) : wf 200 12 x = true := by
  unfold smallV at h
  by_cases h0 : 0 ≤ leftV 13 x 1 200
  · rw [dT h0, cond_true] at h
    exact (left_wf 12 x 1 200 (by decide) (by decide) h0).2 h
  · rw [dF h0] at h; cases h
end Go.Proofs.Ytnbohemhgbkdlaa.Bl