/- The library's strings.Split at one byte; digit.Count; the package port (a part). -/
import Derived.Test.YtfoflgciceckoaaGreatDoorN9
import Derived.Test.YtfoflgciceckoaaGreatDoorN10
namespace Go.Proofs.YtfoflgciceckoaaGreatDoor.Rf
open Go Go.RowKit Go.Sort Go.Proofs.YtfoflgciceckoaaGreatDoor.Mir
/-! ### strings.Split at a separator of one byte (the library's contract, from the kit's shelf) -/
def okSp (s p : List UInt8) (a b : Int) : Bool := decide (s.length ≤ 1000000) && decide (p.length = 1) && (a == 0) && (b == -1)
def spP (s p : List UInt8) (_ _ : Int) : List (List UInt8) := Lib.split s p
def gsplit_R : FnR E
  | [a, b, c, d] => match castV (E := E) Ty.str a, castV (E := E) Ty.str b, castV (E := E) Ty.int c, castV (E := E) Ty.int d with
    | some s, some p, some m, some n => some (okSp s p m n, ⟨Ty.str, spP s p m n⟩)
    | _, _, _, _ => none
  | _ => none
theorem str_of {w : World} {ro : Nat → Nat → Prop} {v : Value} {s : List UInt8} (h : TRep E w ro v Ty.str s) : v = .string ⟨s.toArray⟩ := by
  rcases h with ⟨ha, _⟩ | ⟨_, d, hd, hr⟩
  · cases ha
  · have hd : ([.str s] : List (DVal E.Den)) = [d] := hd
    injection hd with hd _
    subst hd
    cases hr; rfl
theorem int_of {w : World} {ro : Nat → Nat → Prop} {v : Value} {n : Int} (h : TRep E w ro v Ty.int n) : v = .int .i64 n := by
  rcases h with ⟨ha, _⟩ | ⟨_, d, hd, hr⟩
  · cases ha
  · have hd : ([.int .i64 n] : List (DVal E.Den)) = [d] := hd
    injection hd with hd _
    subst hd
    cases hr; rfl
theorem gsplit_rok : FreshOk E 109 gsplit_R := ⟨⟨Tryz.f109, by kernel_rfl, by kernel_rfl, by kernel_rfl⟩, fun args t l hF => by
  unfold gsplit_R at hF
  split at hF
  · rename_i a b c d
    split at hF
    · rename_i s p m n ha hb hc hd
      injection hF with hF
      injection hF with hok hF
      cases hF
      rw [castV_eq ha, castV_eq hb, castV_eq hc, castV_eq hd]
      simp only [okSp, Bool.and_eq_true, decide_eq_true_eq, beq_iff_eq] at hok
      obtain ⟨⟨⟨hs, hp⟩, rfl⟩, rfl⟩ := hok
      obtain ⟨c, rfl⟩ : ∃ c, p = [c] := by
        match p, hp with
        | [c], _ => exact ⟨c, rfl⟩
      intro w ro vals hargs hrolt
      match vals, hargs with
      | [v1, v2, v3, v4], ⟨h1, h2, h3, h4, _⟩ =>
        rw [str_of h1, str_of h2, int_of h3, int_of h4]
        have hp1 : 1 ≤ (⟨#[c]⟩ : ByteArray).size := Nat.le_refl 1
        have hle := Lib.countB_le ⟨#[c]⟩ hp1 _ ⟨s.toArray⟩ (Nat.le_refl _)
        have hsz : (⟨s.toArray⟩ : ByteArray).size = s.length := by simp [ByteArray.size]
        have hix : ∀ x : ByteArray, Lib.indexB x ⟨#[c]⟩ = Lib.indexByte x.data.toList c := fun x => Lib.index_one _ _
        have hct : ∀ x : ByteArray, Lib.countB x ⟨#[c]⟩ = Lib.countByte x.data.toList c := fun x => Lib.count_one c _
        have hlen := Lib.splitB_all ⟨#[c]⟩ hp1 0 _ (⟨s.toArray⟩ : ByteArray) rfl
        refine (Any.strings_genSplit_core Tryz.lays221 (by kernel_rfl) ⟨s.toArray⟩ ⟨#[c]⟩ 0 (-1) (Lib.countB ⟨s.toArray⟩ ⟨#[c]⟩ + 1) w (by omega) hp1 (Nat.zero_le _)
          (fun x k hx => by rw [hix]; exact Any.strings_Index_one (ρ := Tryz.lays221_ren) { Tryz.lays221 with } x c _)
          (by rw [hct]; exact Any.strings_Count_one (ρ := Tryz.lays221_ren) { Tryz.lays221 with } ⟨s.toArray⟩ c w) (by decide) (by decide) (by rw [if_pos (by decide)]; omega)).mono fun e w' he => ?_
        obtain ⟨rfl, rfl⟩ := he
        rw [Nat.add_sub_cancel, hlen]
        have e2 : Lib.cellsOf (Lib.splitB ⟨#[c]⟩ 0 (Lib.countB ⟨s.toArray⟩ ⟨#[c]⟩) ⟨s.toArray⟩) (Lib.countB ⟨s.toArray⟩ ⟨#[c]⟩ + 1) = ((Lib.splitB ⟨#[c]⟩ 0 (Lib.countB ⟨s.toArray⟩ ⟨#[c]⟩) ⟨s.toArray⟩).map Value.string).toArray := by rw [← hlen]; exact Lib.cellsOf_full _
        rw [e2]
        have hd : (Lib.splitB ⟨#[c]⟩ 0 (Lib.countB ⟨s.toArray⟩ ⟨#[c]⟩) ⟨s.toArray⟩).map (·.data.toList) = Lib.split s [c] := Lib.splitB_data ⟨#[c]⟩ 0 _ ⟨s.toArray⟩
        generalize hL : Lib.splitB ⟨#[c]⟩ 0 (Lib.countB ⟨s.toArray⟩ ⟨#[c]⟩) ⟨s.toArray⟩ = L at hlen hd ⊢
        generalize hN : Lib.countB ⟨s.toArray⟩ ⟨#[c]⟩ + 1 = N at hlen hle ⊢
        have hN2 : N ≤ 1000001 := by omega
        have hl2 : (Lib.split s [c]).length = N := by rw [← hd, List.length_map, hlen]
        have hty : E.tid Ty.str = Tryz.lays221_ren.t 9 := rfl
        refine ⟨⟨.slice (some ⟨w.heap.size, 0, none⟩) N N, N, E.tid Ty.str, E.size Ty.str, some w.heap.size⟩, L.map Value.string, rfl, Below.alloc (Below.refl _ _) (Nat.le_refl _) _, hl2.symm, rfl, rfl, .inl ⟨⟨?_, .inr ⟨w.heap.size, N, (L.map Value.string).toArray, rfl, Nat.zero_le _, heap_alloc_new w _, Nat.le_refl _, ?_, ?_, ?_⟩⟩, rfl⟩, ?_, ?_⟩
        · show (L.map Value.string).length = N * 1; rw [List.length_map, hlen, Nat.mul_one]
        · show N ≤ maxLen; unfold maxLen; omega
        · show (L.map Value.string).toArray.size = N * 1; simp [hlen]
        · show (L.map Value.string).toArray.toList.take (N * 1) = _; rw [Nat.mul_one, List.toList_toArray]; exact List.take_of_length_le (by rw [List.length_map, hlen]; exact Nat.le_refl _)
        · intro i x j k hx hc
          have hi : (L.map (·.data.toList))[i]? = some x := by rw [hd]; exact hx
          rw [List.getElem?_map] at hi
          cases hq : L[i]? with
          | none => rw [hq] at hi; cases hi
          | some b =>
            rw [hq] at hi
            injection hi with hi
            match j, hc with
            | 0, hc =>
              have hc : some (DVal.str x : DVal E.Den) = some k := hc
              injection hc with hc
              subst hc
              refine ⟨.string b, ?_, ?_⟩
              · show (L.map Value.string)[i * 1 + 0]? = _; rw [Nat.mul_one, Nat.add_zero, List.getElem?_map, hq]; rfl
              · rw [← hi]; exact .str b.data.toList
            | j + 1, hc => cases hc
        · intro g hg; cases hg; exact Nat.le_refl _
    · cases hF
  · cases hF⟩
/-! ### Package digit (a part) -/
def pdgt (c : UInt8) : Int := (c.toNat : Int) - 48
theorem pdgt_w (c : UInt8) : w64 (w64 (c.toNat : Int) - 48) = pdgt c := by
  have := c.toNat_lt
  show w64 (w64 (c.toNat : Int) - 48) = _
  rw [w64_id (n := (c.toNat : Int)) (by omega) (by omega), w64_id (by omega) (by omega)]
  rfl
def povr (most d n : Int) (over : Bool) : Bool := bif (bif over then true else decide (Int.tdiv (most - d) 10 < n)) then true else decide (most < d)
/-- A number's digits from left to right; 'over': it has passed the bound. The number, and how it ended. -/
def pwh (most : Int) : List UInt8 → Int → Bool → Int × Int
  | [], n, over => bif over then (0, 9) else (n, 0)
  | c :: t, n, over => bif (bif decide (pdgt c < 0) then true else decide (9 < pdgt c)) then (0, 3) else bif !(povr most (pdgt c) n over) then pwh most t (n * 10 + pdgt c) (povr most (pdgt c) n over) else pwh most t n (povr most (pdgt c) n over)
def pbadW (s : List UInt8) : Bool := bif s == [] then true else (bif decide ((1 : Int) < (s.length : Int)) then (((List.getD s 0 0).toNat : Int) == 48) else false)
def pwholeP (s : List UInt8) (most : Int) : Int × Int := bif pbadW s then (0, 3) else pwh most s 0 false
def pwholeV (s : List UInt8) (most : Int) : Int := (pwholeP s most).1
def pwholeE (s : List UInt8) (most : Int) : Int := (pwholeP s most).2
def pokW (s : List UInt8) (most : Int) : Bool := decide (s.length ≤ 1000000) && decide (0 ≤ most) && decide (most ≤ 9007199254740992)
theorem pokW_iff {s : List UInt8} {most : Int} : pokW s most = true ↔ (s.length ≤ 1000000 ∧ 0 ≤ most) ∧ most ≤ 9007199254740992 := by simp [pokW]
noncomputable def pwhole_W : FnW E := fn22 (E := E) .str .int .int .api_Errno pokW pwholeV pwholeE
def pwhole_id : FuncId := 115
noncomputable def pwhole_O : Oracle E := orac [] [] [] []
noncomputable def pwhole_H : Hint E := Hint.mk [(0, [0, 1, 6, 7, 23, 24])] [] [] [] []
noncomputable def pwhole_C0 (v0 : List UInt8) (v1 v2 : Int) (v3 : Bool) (v4 v5 : Int) : ASt E := ASt.mk 61 [(0, .d (.str v0)), (1, .d (.int .i64 v1)), (6, .d (.int .i64 v2)), (7, .d (.bool v3)), (23, .d (.int .i64 v4)), (24, .d (.int .i64 v5))] [] 0
noncomputable def pwhole_t (G : Nat → ASt E → Option (List (TV E))) (x0 : List UInt8) (x1 : Int) : Option (List (TV E)) :=
  bif ((decide ((0 : Int) ≤ (0 : Int)) && decide ((0 : Int) < (x0.length : Int))) || !((!(x0 == ([] : List UInt8))) && (decide ((1 : Int) < (x0.length : Int))))) then (bif (bif (x0 == ([] : List UInt8)) then true else (bif (decide ((1 : Int) < (x0.length : Int))) then ((((List.getD x0 (Int.toNat (0 : Int)) 0).toNat : Nat) : Int) == (48 : Int)) else false)) then some [⟨.int, (0 : Int)⟩, ⟨.api_Errno, (3 : Int)⟩] else G 0 (pwhole_C0 x0 x1 (0 : Int) false (x0.length : Int) (0 : Int))) else none
theorem pwhole_e (G : Nat → ASt E → Option (List (TV E))) (x0 : List UInt8) (x1 : Int) : runE pwhole_O pwhole_H G Tryz.f115 [⟨.str, x0⟩, ⟨.int, x1⟩] = pwhole_t G x0 x1 := by kernel_rfl
noncomputable def pwhole_t0 (G : Nat → ASt E → Option (List (TV E))) (v0 : List UInt8) (v1 v2 : Int) (v3 : Bool) (v4 v5 : Int) : Option (List (TV E)) :=
  bif (decide (v5 < v4)) then (bif (decide ((0 : Int) ≤ v5) && decide (v5 < (v0.length : Int))) then (bif (bif (decide ((w64 ((w64 (((List.getD v0 (Int.toNat v5) 0).toNat : Nat) : Int)) - (48 : Int))) < (0 : Int))) then true else (decide ((9 : Int) < (w64 ((w64 (((List.getD v0 (Int.toNat v5) 0).toNat : Nat) : Int)) - (48 : Int)))))) then some [⟨.int, (0 : Int)⟩, ⟨.api_Errno, (3 : Int)⟩] else (bif ((!((10 : Int) == (0 : Int))) || !(!v3)) then (bif (!(bif (bif v3 then true else (decide ((w64 (Int.tdiv (w64 (v1 - (w64 ((w64 (((List.getD v0 (Int.toNat v5) 0).toNat : Nat) : Int)) - (48 : Int))))) (10 : Int))) < v2))) then true else (decide (v1 < (w64 ((w64 (((List.getD v0 (Int.toNat v5) 0).toNat : Nat) : Int)) - (48 : Int))))))) then G 0 (pwhole_C0 v0 v1 (w64 ((w64 (v2 * (10 : Int))) + (w64 ((w64 (((List.getD v0 (Int.toNat v5) 0).toNat : Nat) : Int)) - (48 : Int))))) (bif (bif v3 then true else (decide ((w64 (Int.tdiv (w64 (v1 - (w64 ((w64 (((List.getD v0 (Int.toNat v5) 0).toNat : Nat) : Int)) - (48 : Int))))) (10 : Int))) < v2))) then true else (decide (v1 < (w64 ((w64 (((List.getD v0 (Int.toNat v5) 0).toNat : Nat) : Int)) - (48 : Int)))))) v4 (w64 (v5 + (1 : Int)))) else G 0 (pwhole_C0 v0 v1 v2 (bif (bif v3 then true else (decide ((w64 (Int.tdiv (w64 (v1 - (w64 ((w64 (((List.getD v0 (Int.toNat v5) 0).toNat : Nat) : Int)) - (48 : Int))))) (10 : Int))) < v2))) then true else (decide (v1 < (w64 ((w64 (((List.getD v0 (Int.toNat v5) 0).toNat : Nat) : Int)) - (48 : Int)))))) v4 (w64 (v5 + (1 : Int))))) else none)) else none) else (bif v3 then some [⟨.int, (0 : Int)⟩, ⟨.api_Errno, (9 : Int)⟩] else some [⟨.int, v2⟩, ⟨.api_Errno, (0 : Int)⟩])
theorem pwhole_l0 (G : Nat → ASt E → Option (List (TV E))) (v0 : List UInt8) (v1 v2 : Int) (v3 : Bool) (v4 v5 : Int) : runL pwhole_O pwhole_H G Tryz.f115 0 (pwhole_C0 v0 v1 v2 v3 v4 v5) = pwhole_t0 G v0 v1 v2 v3 v4 v5 := by kernel_rfl
theorem pwhole_f : Tryz.prog.funcs[115]? = some Tryz.f115 := by kernel_rfl
theorem pwhole_n : (Tryz.f115.name == "runtime.NumGoroutine") = false := by kernel_rfl
theorem pwhole_b : Tryz.f115.body.isNone = false := by kernel_rfl
theorem pwhole_ex : ∃ fn, Tryz.prog.funcs[115]? = some fn ∧ (fn.name == "runtime.NumGoroutine") = false ∧ fn.body.isNone = false := ⟨Tryz.f115, pwhole_f, pwhole_n, pwhole_b⟩
theorem pwhole_hO : OracleOk E pwhole_O := orac_ok .nil .nil .nil .nil
theorem pwhole_s0 {res : List (TV E)} {v0 : List UInt8} {v1 v2 : Int} {v3 : Bool} {v4 v5 : Int} (h : pwhole_t0 (Gr E Tryz.f115 res) v0 v1 v2 v3 v4 v5 = some res) : Ev E Tryz.f115 res 0 (pwhole_C0 v0 v1 v2 v3 v4 v5) := Ev.step pwhole_hO mix ((pwhole_l0 _ v0 v1 v2 v3 v4 v5).trans h)
theorem pwhole_ok_of (h : ∀ (x0 : List UInt8) (x1 : Int), pokW x0 x1 = true → pwhole_t (Gr E Tryz.f115 [⟨.int, pwholeV x0 x1⟩, ⟨.api_Errno, pwholeE x0 x1⟩]) x0 x1 = some [⟨.int, pwholeV x0 x1⟩, ⟨.api_Errno, pwholeE x0 x1⟩]) : FnOk E pwhole_id pwhole_W := fn22_ok pwhole_hO mix pwhole_f pwhole_n pwhole_b (fun x0 x1 hk => (pwhole_e _ x0 x1).trans (h x0 x1 hk))
theorem pwhole_loop (s : List UInt8) (most : Int) (hs : s.length ≤ 1000000) (h0 : 0 ≤ most) (h1 : most ≤ 9007199254740992) : ∀ (m i : Nat) (n : Int) (over : Bool), s.length - i = m → i ≤ s.length → 0 ≤ n → n ≤ most →
    Ev E Tryz.f115 [⟨.int, (pwh most (s.drop i) n over).1⟩, ⟨.api_Errno, (pwh most (s.drop i) n over).2⟩] 0 (pwhole_C0 s most n over s.length i) := by
  intro m
  induction m with
  | zero =>
    intro i n over g1 g2 g3 g4
    refine pwhole_s0 ?_
    simp only [pwhole_t0, dge (show s.length ≤ i by omega), cond_false, List.drop_eq_nil_of_le (show s.length ≤ i by omega), pwh]
    cases over <;> rfl
  | succ m ih =>
    intro i n over g1 g2 g3 g4
    have hi : i < s.length := by omega
    have e3 : w64 ((i : Int) + 1) = ((i + 1 : Nat) : Int) := by rw [w64_id (by omega) (by omega)]; omega
    refine pwhole_s0 ?_
    simp only [pwhole_t0, dlt hi, d0, gd s _ i hi, Bool.and_self, cond_true, pdgt_w, e3]
    rw [← List.getElem_cons_drop hi]
    simp only [pwh]
    generalize pdgt s[i] = d
    cases hb : (bif decide (d < 0) then true else decide (9 < d)) with
    | true => rfl
    | false =>
      have hd : ¬ d < 0 ∧ ¬ 9 < d := by
        by_cases a1 : d < 0
        · rw [dT a1] at hb; cases hb
        · rw [dF a1, cond_false] at hb
          exact ⟨a1, by simpa using hb⟩
      have q : ((most - d).tdiv 10).natAbs = (most - d).natAbs / 10 := Int.natAbs_tdiv _ _
      have w1 : w64 (most - d) = most - d := w64_id (by omega) (by omega)
      have w2 : w64 ((most - d).tdiv 10) = (most - d).tdiv 10 := w64_id (by omega) (by omega)
      have e10 : ((!((10 : Int) == 0)) || !(!over)) = true := rfl
      simp only [cond_false, w1, w2, e10, cond_true]
      change (bif !(povr most d n over) then Gr E _ _ 0 (pwhole_C0 s most (w64 (w64 (n * 10) + d)) (povr most d n over) s.length ((i + 1 : Nat) : Int)) else Gr E _ _ 0 (pwhole_C0 s most n (povr most d n over) s.length ((i + 1 : Nat) : Int))) = _
      cases ho : povr most d n over with
      | true =>
        simp only [Bool.not_true, cond_false]
        exact Gr_of (ih (i + 1) n true (by omega) (by omega) g3 g4)
      | false =>
        have hf : ¬ (most - d).tdiv 10 < n ∧ ¬ most < d := by
          unfold povr at ho
          cases over with
          | true => cases ho
          | false =>
            by_cases a1 : (most - d).tdiv 10 < n
            · rw [dT a1] at ho; cases ho
            · rw [dF a1] at ho
              exact ⟨a1, by simpa using ho⟩
        have hq : (most - d).tdiv 10 = (most - d) / 10 := Int.tdiv_eq_ediv_of_nonneg (by omega)
        have hle : n * 10 + d ≤ most := by omega
        simp only [Bool.not_false, cond_true]
        rw [w64_id (n := n * 10) (by omega) (by omega), w64_id (n := n * 10 + d) (by omega) (by omega)]
        exact Gr_of (ih (i + 1) (n * 10 + d) false (by omega) (by omega) (by omega) hle)
theorem pwhole_ok : FnOk E pwhole_id pwhole_W := pwhole_ok_of fun s most hk => by
  obtain ⟨⟨hs, h0⟩, h1⟩ := pokW_iff.1 hk
  have hc : ((decide ((0 : Int) ≤ 0) && decide ((0 : Int) < (s.length : Int))) || !((!(s == ([] : List UInt8))) && (decide ((1 : Int) < (s.length : Int))))) = true := by
    cases s with
    | nil => rfl
    | cons c t => rw [dT (show (0 : Int) < ((c :: t).length : Int) by rw [List.length_cons]; omega)]; rfl
  simp only [pwhole_t]
  rw [hc, cond_true]
  change (bif pbadW s then _ else _) = _
  unfold pwholeV pwholeE pwholeP
  cases hb : pbadW s with
  | true => rfl
  | false =>
    simp only [cond_false]
    have := Gr_of (pwhole_loop s most hs h0 h1 s.length 0 0 false (by omega) (by omega) (Int.le_refl _) h0)
    rw [List.drop_zero] at this
    exact this
noncomputable def dcount_W : FnW E := fn22 (E := E) .str .int .int .api_Errno pokW pwholeV pwholeE
def dcount_id : FuncId := 58
noncomputable def dcount_O : Oracle E := orac [(115, pwhole_W)] [] [] []
noncomputable def dcount_H : Hint E := Hint.mk [] [] [] [] []
noncomputable def dcount_t (_G : Nat → ASt E → Option (List (TV E))) (x0 : List UInt8) (x1 : Int) : Option (List (TV E)) :=
  bif (decide (x1 < (0 : Int))) then some [⟨.int, (0 : Int)⟩, ⟨.api_Errno, (2 : Int)⟩] else (bif (pokW x0 x1) then some [⟨.int, (pwholeV x0 x1)⟩, ⟨.api_Errno, (pwholeE x0 x1)⟩] else none)
theorem dcount_e (G : Nat → ASt E → Option (List (TV E))) (x0 : List UInt8) (x1 : Int) : runE dcount_O dcount_H G Tryz.f58 [⟨.str, x0⟩, ⟨.int, x1⟩] = dcount_t G x0 x1 := by kernel_rfl
theorem dcount_f : Tryz.prog.funcs[58]? = some Tryz.f58 := by kernel_rfl
theorem dcount_n : (Tryz.f58.name == "runtime.NumGoroutine") = false := by kernel_rfl
theorem dcount_b : Tryz.f58.body.isNone = false := by kernel_rfl
theorem dcount_ex : ∃ fn, Tryz.prog.funcs[58]? = some fn ∧ (fn.name == "runtime.NumGoroutine") = false ∧ fn.body.isNone = false := ⟨Tryz.f58, dcount_f, dcount_n, dcount_b⟩
theorem dcount_hO : OracleOk E dcount_O := orac_ok (.cons pwhole_ok .nil) .nil .nil .nil
theorem dcount_ok_of (h : ∀ (x0 : List UInt8) (x1 : Int), pokW x0 x1 = true → dcount_t (Gr E Tryz.f58 [⟨.int, pwholeV x0 x1⟩, ⟨.api_Errno, pwholeE x0 x1⟩]) x0 x1 = some [⟨.int, pwholeV x0 x1⟩, ⟨.api_Errno, pwholeE x0 x1⟩]) : FnOk E dcount_id dcount_W := fn22_ok dcount_hO mix dcount_f dcount_n dcount_b (fun x0 x1 hk => (dcount_e _ x0 x1).trans (h x0 x1 hk))
theorem dcount_ok : FnOk E dcount_id dcount_W := dcount_ok_of fun s most hk => by
  obtain ⟨⟨hs, h0⟩, h1⟩ := pokW_iff.1 hk
  simp only [dcount_t, hk, dF (show ¬ most < 0 by omega), cond_true, cond_false]
end Go.Proofs.YtfoflgciceckoaaGreatDoor.Rf