/- Part 6 of a proof: the texts H2 H3 H4 H5 N13 H6, one behind the other. -/
import Derived.Test.YtgniedpgdjmfpaaGreatDoorZ5
import Derived.Test.YtgniedpgdjmfpaaGreatDoorZ4
namespace Go.Proofs.YtgniedpgdjmfpaaGreatDoor.Rf
open Go Go.RowKit Go.Sort Go.Proofs.YtgniedpgdjmfpaaGreatDoor.Mir
def moreS : List UInt8 := [46, 95, 45, 47, 58, 61, 44, 43, 64, 37]
def ldB (n : Int) : Bool := bif (bif (bif decide ((97 : Int) ≤ n) then decide (n ≤ 122) else false) then true else (bif decide ((65 : Int) ≤ n) then decide (n ≤ 90) else false)) then true else (bif decide ((48 : Int) ≤ n) then decide (n ≤ 57) else false)
def okC (n : Int) : Bool := ldB n || moreS.any fun m => ((m.toNat : Nat) : Int) == n
def pb0 (n : Int) : Bool := bif (bif (bif decide (n < (97 : Int)) then true else decide ((122 : Int) < n)) then (bif decide (n < (65 : Int)) then true else decide ((90 : Int) < n)) else false) then (bif decide (n < (48 : Int)) then true else decide ((57 : Int) < n)) else false
def pb1 (n : Int) : Bool := bif pb0 n then decide (sxV moreS n < 0) else false
theorem pb1_eq (c : UInt8) : pb1 (Int.ofNat c.toNat) = !(okC (Int.ofNat c.toNat)) := beq_iff_eq.1 (bytes_all (p := fun n => pb1 (Int.ofNat n) == !(okC (Int.ofNat n))) (by decide +kernel) c)
def bareV (s : List UInt8) : Bool := (s.all fun c => okC ((c.toNat : Nat) : Int)) && !(s == [])
noncomputable def wbare_W : FnW E := fn1 (E := E) .str .bool okL1 bareV
def wbare_id : FuncId := 166
noncomputable def wbare_O : Oracle E := orac [(120, sixb_W)] [] [] []
noncomputable def wbare_H : Hint E := Hint.mk [(0, [0, 6, 7])] [] [] [] []
noncomputable def wbare_C0 (v0 : List UInt8) (v1 v2 : Int) : ASt E := ASt.mk 43 [(0, .d (.str v0)), (6, .d (.int .i64 v1)), (7, .d (.int .i64 v2))] [] 0
noncomputable def wbare_t (G : Nat → ASt E → Option (List (TV E))) (x0 : List UInt8) : Option (List (TV E)) :=
  G 0 (wbare_C0 x0 (x0.length : Int) 0)
theorem wbare_e (G : Nat → ASt E → Option (List (TV E))) (x0 : List UInt8) : runE wbare_O wbare_H G Tryz.f166 [⟨.str, x0⟩] = wbare_t G x0 := by kernel_rfl
noncomputable def wbare_t0 (G : Nat → ASt E → Option (List (TV E))) (v0 : List UInt8) (v1 v2 : Int) : Option (List (TV E)) :=
  bif (decide (v2 < v1)) then (bif (decide ((0 : Int) ≤ v2) && decide (v2 < (v0.length : Int))) then (bif ((okSx [46, 95, 45, 47, 58, 61, 44, 43, 64, 37] (((List.getD v0 (Int.toNat v2) 0).toNat : Nat) : Int)) || !(bif (bif (bif (decide ((((List.getD v0 (Int.toNat v2) 0).toNat : Nat) : Int) < (97 : Int))) then true else (decide ((122 : Int) < (((List.getD v0 (Int.toNat v2) 0).toNat : Nat) : Int)))) then (bif (decide ((((List.getD v0 (Int.toNat v2) 0).toNat : Nat) : Int) < (65 : Int))) then true else (decide ((90 : Int) < (((List.getD v0 (Int.toNat v2) 0).toNat : Nat) : Int)))) else false) then (bif (decide ((((List.getD v0 (Int.toNat v2) 0).toNat : Nat) : Int) < (48 : Int))) then true else (decide ((57 : Int) < (((List.getD v0 (Int.toNat v2) 0).toNat : Nat) : Int)))) else false)) then (bif (bif (bif (bif (bif (decide ((((List.getD v0 (Int.toNat v2) 0).toNat : Nat) : Int) < (97 : Int))) then true else (decide ((122 : Int) < (((List.getD v0 (Int.toNat v2) 0).toNat : Nat) : Int)))) then (bif (decide ((((List.getD v0 (Int.toNat v2) 0).toNat : Nat) : Int) < (65 : Int))) then true else (decide ((90 : Int) < (((List.getD v0 (Int.toNat v2) 0).toNat : Nat) : Int)))) else false) then (bif (decide ((((List.getD v0 (Int.toNat v2) 0).toNat : Nat) : Int) < (48 : Int))) then true else (decide ((57 : Int) < (((List.getD v0 (Int.toNat v2) 0).toNat : Nat) : Int)))) else false) then (decide ((sxV [46, 95, 45, 47, 58, 61, 44, 43, 64, 37] (((List.getD v0 (Int.toNat v2) 0).toNat : Nat) : Int)) < (0 : Int))) else false) then some [⟨.bool, false⟩] else G 0 (wbare_C0 v0 v1 (w64 (v2 + (1 : Int))))) else none) else none) else some [⟨.bool, (!(v0 == ([] : List UInt8)))⟩]
theorem wbare_l0 (G : Nat → ASt E → Option (List (TV E))) (v0 : List UInt8) (v1 v2 : Int) : runL wbare_O wbare_H G Tryz.f166 0 (wbare_C0 v0 v1 v2) = wbare_t0 G v0 v1 v2 := by kernel_rfl
theorem wbare_f : Tryz.prog.funcs[166]? = some Tryz.f166 := by kernel_rfl
theorem wbare_n : (Tryz.f166.name == "runtime.NumGoroutine") = false := by kernel_rfl
theorem wbare_b : Tryz.f166.body.isNone = false := by kernel_rfl
theorem wbare_hO : OracleOk E wbare_O := orac_ok (.cons sixb_ok .nil) .nil .nil .nil
theorem wbare_s0 {res : List (TV E)} {v0 : List UInt8} {v1 v2 : Int} (h : wbare_t0 (Gr E Tryz.f166 res) v0 v1 v2 = some res) : Ev E Tryz.f166 res 0 (wbare_C0 v0 v1 v2) := Ev.step wbare_hO mix ((wbare_l0 _ v0 v1 v2).trans h)
theorem wbare_ok_of (h : ∀ (x0 : List UInt8), okL1 x0 = true → wbare_t (Gr E Tryz.f166 [⟨.bool, bareV x0⟩]) x0 = some [⟨.bool, bareV x0⟩]) : FnOk E wbare_id wbare_W := fn1_ok wbare_hO mix wbare_f wbare_n wbare_b (fun x0 hk => (wbare_e _ x0).trans (h x0 hk))
theorem wbare_0 (s : List UInt8) (hs : s.length ≤ 1000000) : ∀ (m i : Nat), s.length - i = m → i ≤ s.length → Ev E Tryz.f166 [⟨.bool, ((s.drop i).all fun c => okC ((c.toNat : Nat) : Int)) && !(s == [])⟩] 0 (wbare_C0 s s.length i) := by
  intro m
  induction m with
  | zero =>
    intro i h1 h2
    refine wbare_s0 ?_
    simp only [wbare_t0, dge (show s.length ≤ i by omega), cond_false, List.drop_eq_nil_of_le (show s.length ≤ i by omega), List.all_nil, Bool.true_and]
  | succ m ih =>
    intro i h1 h2
    have hi : i < s.length := by omega
    have e1 : w64 ((i : Int) + 1) = ((i + 1 : Nat) : Int) := by rw [w64_id (by omega) (by omega)]; omega
    have hok : ∀ n : Int, okSx [46, 95, 45, 47, 58, 61, 44, 43, 64, 37] n = true := fun _ => rfl
    have hb : (bif (bif (bif (bif decide (((List.getD s i 0).toNat : Int) < 97) then true else decide ((122 : Int) < ((List.getD s i 0).toNat : Int))) then (bif decide (((List.getD s i 0).toNat : Int) < 65) then true else decide ((90 : Int) < ((List.getD s i 0).toNat : Int))) else false) then (bif decide (((List.getD s i 0).toNat : Int) < 48) then true else decide ((57 : Int) < ((List.getD s i 0).toNat : Int))) else false) then decide (sxV [46, 95, 45, 47, 58, 61, 44, 43, 64, 37] ((List.getD s i 0).toNat : Int) < 0) else false) = !(okC ((List.getD s i 0).toNat : Int)) := pb1_eq _
    refine wbare_s0 ?_
    rw [drop_at hi, List.all_cons]
    simp only [wbare_t0, dlt hi, d0, Bool.and_self, cond_true, Int.toNat_natCast, hok, Bool.true_or, hb, e1]
    cases okC ((List.getD s i 0).toNat : Int) with
    | false => rfl
    | true => exact Gr_of (ih (i + 1) (by omega) (by omega))
theorem wbare_ok : FnOk E wbare_id wbare_W := wbare_ok_of fun s hk => Gr_of (wbare_0 s (okL1_iff.1 hk) _ 0 rfl (Nat.zero_le _))
def qtV (s : List UInt8) : List UInt8 := bif bareV s then s else [39] ++ rep1 39 [39, 92, 39, 39] s ++ [39]
def wjV (l : List (List UInt8)) : List UInt8 := Lib.join (l.map qtV) [32]
def okWj (l : List (List UInt8)) : Bool := decide (l.length ≤ 1000) && l.all fun s => decide (s.length ≤ 10000)
theorem okWj_iff {l : List (List UInt8)} : okWj l = true ↔ l.length ≤ 1000 ∧ ∀ s ∈ l, s.length ≤ 10000 := by simp [okWj]
theorem qt_len {s : List UInt8} : (qtV s).length ≤ 5 * s.length + 2 := by
  unfold qtV
  cases bareV s with
  | true => rw [cond_true]; omega
  | false =>
    have h := rep1_len 39 [39, 92, 39, 39] s
    have hc : Lib.countByte s 39 ≤ s.length := List.count_le_length
    rw [cond_false, List.length_append, List.length_append]
    simp only [List.length_cons, List.length_nil] at h ⊢
    omega
theorem join_len : ∀ (l : List (List UInt8)) (B : Nat), (∀ s ∈ l, s.length ≤ B) → (Lib.join l [32]).length ≤ l.length * (B + 1)
  | [], _, _ => Nat.zero_le _
  | [x], B, h => by
    have := h x List.mem_cons_self
    show ([32].intercalate [x]).length ≤ _
    simp [List.intercalate]; omega
  | x :: y :: t, B, h => by
    have h1 := h x List.mem_cons_self
    have ih := join_len (y :: t) B fun s hs => h s (List.mem_cons_of_mem _ hs)
    have e : Lib.join (x :: y :: t) [32] = x ++ [32] ++ Lib.join (y :: t) [32] := by
      simp [Lib.join, List.intercalate, List.intersperse]
    have e2 : (x :: y :: t).length = (y :: t).length + 1 := rfl
    rw [e, List.length_append, List.length_append, e2, Nat.add_mul, Nat.one_mul, List.length_singleton]
    omega
noncomputable def wjoin_W : FnW E := fn1 (E := E) .l_str .str okWj wjV
def wjoin_id : FuncId := 130
noncomputable def wjoin_O : Oracle E := orac [(166, wbare_W), (168, sjoin_W), (167, srall_W)] [] [] []
noncomputable def wjoin_H : Hint E := Hint.mk [(0, [3, 6, 7, 8])] [] [(0, [(3, none, true, .str)])] [] []
noncomputable def wjoin_C0 (v0 : List (List UInt8)) (v1 : List (List UInt8)) (v2 v3 : Int) : ASt E := ASt.mk 26 [(3, .grow .str v0 0), (6, .d (.slice .str v1)), (7, .d (.int .i64 v2)), (8, .d (.int .i64 v3))] [(0, .tail true)] 1
noncomputable def wjoin_t (G : Nat → ASt E → Option (List (TV E))) (x0 : List (List UInt8)) : Option (List (TV E)) :=
  G 0 (wjoin_C0 [] x0 (x0.length : Int) 0)
theorem wjoin_e (G : Nat → ASt E → Option (List (TV E))) (x0 : List (List UInt8)) : runE wjoin_O wjoin_H G Tryz.f130 [⟨.l_str, x0⟩] = wjoin_t G x0 := by kernel_rfl
noncomputable def wjoin_t0 (G : Nat → ASt E → Option (List (TV E))) (v0 : List (List UInt8)) (v1 : List (List UInt8)) (v2 v3 : Int) : Option (List (TV E)) :=
  bif (decide (v3 < v2)) then (bif (decide ((0 : Int) ≤ v3) && decide (v3 < (v1.length : Int))) then (bif (okL1 (List.getD v1 (Int.toNat v3) (dflt .str))) then (bif (!(bareV (List.getD v1 (Int.toNat v3) (dflt .str)))) then (bif ((fun s old new => okRe s old new (-1)) (List.getD v1 (Int.toNat v3) (dflt .str)) ([39] : List UInt8) ([39, 92, 39, 39] : List UInt8)) then (bif (decide (([39] : List UInt8).length + ((fun s old new => reV s old new (-1)) (List.getD v1 (Int.toNat v3) (dflt .str)) ([39] : List UInt8) ([39, 92, 39, 39] : List UInt8)).length ≤ maxStr)) then (bif (decide ((([39] : List UInt8) ++ ((fun s old new => reV s old new (-1)) (List.getD v1 (Int.toNat v3) (dflt .str)) ([39] : List UInt8) ([39, 92, 39, 39] : List UInt8))).length + ([39] : List UInt8).length ≤ maxStr)) then (bif (decide ((v0.length + ([((([39] : List UInt8) ++ ((fun s old new => reV s old new (-1)) (List.getD v1 (Int.toNat v3) (dflt .str)) ([39] : List UInt8) ([39, 92, 39, 39] : List UInt8))) ++ ([39] : List UInt8))] : List (List UInt8)).length) * 16 ≤ maxBytes)) then G 0 (wjoin_C0 (v0 ++ ([((([39] : List UInt8) ++ ((fun s old new => reV s old new (-1)) (List.getD v1 (Int.toNat v3) (dflt .str)) ([39] : List UInt8) ([39, 92, 39, 39] : List UInt8))) ++ ([39] : List UInt8))] : List (List UInt8))) v1 v2 (w64 (v3 + (1 : Int)))) else none) else none) else none) else none) else (bif (decide ((v0.length + ([(List.getD v1 (Int.toNat v3) (dflt .str))] : List (List UInt8)).length) * 16 ≤ maxBytes)) then G 0 (wjoin_C0 (v0 ++ ([(List.getD v1 (Int.toNat v3) (dflt .str))] : List (List UInt8))) v1 v2 (w64 (v3 + (1 : Int)))) else none)) else none) else none) else (bif (okJn v0 [32]) then some [⟨.str, (Lib.join v0 ([32] : List UInt8))⟩] else none)
theorem wjoin_l0 (G : Nat → ASt E → Option (List (TV E))) (v0 : List (List UInt8)) (v1 : List (List UInt8)) (v2 v3 : Int) : runL wjoin_O wjoin_H G Tryz.f130 0 (wjoin_C0 v0 v1 v2 v3) = wjoin_t0 G v0 v1 v2 v3 := by kernel_rfl
theorem wjoin_f : Tryz.prog.funcs[130]? = some Tryz.f130 := by kernel_rfl
theorem wjoin_n : (Tryz.f130.name == "runtime.NumGoroutine") = false := by kernel_rfl
theorem wjoin_b : Tryz.f130.body.isNone = false := by kernel_rfl
theorem wjoin_hO : OracleOk E wjoin_O := orac_ok (.cons wbare_ok (.cons sjoin_ok (.cons srall_ok .nil))) .nil .nil .nil
theorem wjoin_s0 {res : List (TV E)} {v0 : List (List UInt8)} {v1 : List (List UInt8)} {v2 v3 : Int} (h : wjoin_t0 (Gr E Tryz.f130 res) v0 v1 v2 v3 = some res) : Ev E Tryz.f130 res 0 (wjoin_C0 v0 v1 v2 v3) := Ev.step wjoin_hO mix ((wjoin_l0 _ v0 v1 v2 v3).trans h)
theorem wjoin_ok_of (h : ∀ (x0 : List (List UInt8)), okWj x0 = true → wjoin_t (Gr E Tryz.f130 [⟨.str, wjV x0⟩]) x0 = some [⟨.str, wjV x0⟩]) : FnOk E wjoin_id wjoin_W := fn1_ok wjoin_hO mix wjoin_f wjoin_n wjoin_b (fun x0 hk => (wjoin_e _ x0).trans (h x0 hk))
theorem wjoin_0 (l : List (List UInt8)) (h1 : l.length ≤ 1000) (h2 : ∀ s ∈ l, s.length ≤ 10000) : ∀ (m i : Nat) (out : List (List UInt8)), l.length - i = m → i ≤ l.length → out = (l.take i).map qtV → Ev E Tryz.f130 [⟨.str, wjV l⟩] 0 (wjoin_C0 out l l.length i) := by
  have ha : ∀ l' : List (List UInt8), l'.length ≤ 1000 → (∀ s ∈ l', s.length ≤ 10000) → okJn (l'.map qtV) [32] = true := fun l' g1 g2 => by
    have := join_len (l'.map qtV) 50002 fun s hs => by
      obtain ⟨x, hx, rfl⟩ := List.mem_map.1 hs
      have := g2 x hx
      have := qt_len (s := x)
      omega
    rw [List.length_map] at this
    have hm : l'.length * (50002 + 1) ≤ 1000 * 50003 := Nat.mul_le_mul_right _ g1
    simp only [okJn, Bool.and_eq_true, decide_eq_true_eq, List.length_map]
    omega
  intro m
  induction m with
  | zero =>
    intro i out g1 g2 g3
    have ht : l.take i = l := List.take_of_length_le (by omega)
    rw [ht] at g3
    subst g3
    refine wjoin_s0 ?_
    simp only [wjoin_t0, dge (show l.length ≤ i by omega), cond_false, ha l h1 h2, cond_true]
    rfl
  | succ m ih =>
    intro i out g1 g2 g3
    have hi : i < l.length := by omega
    have e1 : w64 ((i : Int) + 1) = ((i + 1 : Nat) : Int) := by rw [w64_id (by omega) (by omega)]; omega
    have hx := h2 _ (List.getElem_mem hi)
    have hl : out.length = i := by rw [g3, List.length_map, List.length_take]; omega
    have ok1 : okL1 l[i] = true := okL1_iff.2 (by omega)
    have ok2 : okRe l[i] [39] [39, 92, 39, 39] (-1) = true := by
      simp only [okRe, dT (show l[i].length ≤ 1000000 by omega), Bool.true_and]; rfl
    have next := ih (i + 1) (out ++ [qtV l[i]]) (by omega) (by omega) (by rw [g3, List.take_succ_eq_append_getElem hi, List.map_append]; rfl)
    have hr := rep1_len 39 [39, 92, 39, 39] l[i]
    have hc : Lib.countByte l[i] 39 ≤ l[i].length := List.count_le_length
    simp only [List.length_cons, List.length_nil] at hr
    refine wjoin_s0 ?_
    simp only [wjoin_t0, dlt hi, d0, gd l _ i hi, Bool.and_self, cond_true, e1, ok1, ok2]
    unfold qtV at next
    cases hb : bareV l[i] with
    | true =>
      rw [hb] at next
      simp only [Bool.not_true, cond_false]
      rw [mbT (show (out.length + [l[i]].length) * 16 ≤ 140737488355328 by rw [List.length_singleton]; omega), cond_true]
      exact Gr_of next
    | false =>
      rw [hb] at next
      simp only [Bool.not_false, cond_true]
      unfold reV
      have e39 : List.headD [39] (0 : UInt8) = 39 := rfl
      rw [e39, msT (show ([39] : List UInt8).length + (rep1 39 [39, 92, 39, 39] l[i]).length ≤ 4611686018427387904 by rw [List.length_singleton]; omega), msT (show (([39] : List UInt8) ++ rep1 39 [39, 92, 39, 39] l[i]).length + ([39] : List UInt8).length ≤ 4611686018427387904 by rw [List.length_append, List.length_singleton]; omega),
        mbT (show (out.length + [([39] : List UInt8) ++ rep1 39 [39, 92, 39, 39] l[i] ++ [39]].length) * 16 ≤ 140737488355328 by rw [List.length_singleton]; omega)]
      exact Gr_of next
theorem wjoin_ok : FnOk E wjoin_id wjoin_W := wjoin_ok_of fun l hk => by
  obtain ⟨h1, h2⟩ := okWj_iff.1 hk
  exact Gr_of (wjoin_0 l h1 h2 _ 0 [] rfl (Nat.zero_le _) rfl)
noncomputable def rbare_W : FnW E := fn1 (E := E) .str .bool okL1 bareV
def rbare_id : FuncId := 173
noncomputable def rbare_O : Oracle E := orac [] [] [] []
noncomputable def rbare_H : Hint E := Hint.mk [(0, [0, 3, 4]), (1, [0, 3, 4, 5, 6, 7])] [] [] [] []
noncomputable def rbare_C0 (v0 v1 : List UInt8) (v2 : Int) : ASt E := ASt.mk 58 [(0, .d (.str v0)), (3, .d (.str v1)), (4, .d (.int .i64 v2))] [] 0
noncomputable def rbare_C1 (v0 v1 : List UInt8) (v2 v3 : Int) (v4 : Bool) (v5 : Int) : ASt E := ASt.mk 58 [(0, .d (.str v0)), (3, .d (.str v1)), (4, .d (.int .i64 v2)), (5, .d (.int .u8 v3)), (6, .d (.bool v4)), (7, .d (.int .i64 v5))] [] 0
noncomputable def rbare_t (G : Nat → ASt E → Option (List (TV E))) (x0 : List UInt8) : Option (List (TV E)) :=
  G 0 (rbare_C0 x0 [46, 95, 45, 47, 58, 61, 44, 43, 64, 37] 0)
theorem rbare_e (G : Nat → ASt E → Option (List (TV E))) (x0 : List UInt8) : runE rbare_O rbare_H G Tryz.f173 [⟨.str, x0⟩] = rbare_t G x0 := by kernel_rfl
noncomputable def rbare_t0 (G : Nat → ASt E → Option (List (TV E))) (v0 v1 : List UInt8) (v2 : Int) : Option (List (TV E)) :=
  bif (decide (v2 < (v0.length : Int))) then (bif (decide ((0 : Int) ≤ v2) && decide (v2 < (v0.length : Int))) then G 1 (rbare_C1 v0 v1 v2 (((List.getD v0 (Int.toNat v2) 0).toNat : Nat) : Int) (bif (bif (bif (decide ((97 : Int) ≤ (((List.getD v0 (Int.toNat v2) 0).toNat : Nat) : Int))) then (decide ((((List.getD v0 (Int.toNat v2) 0).toNat : Nat) : Int) ≤ (122 : Int))) else false) then true else (bif (decide ((65 : Int) ≤ (((List.getD v0 (Int.toNat v2) 0).toNat : Nat) : Int))) then (decide ((((List.getD v0 (Int.toNat v2) 0).toNat : Nat) : Int) ≤ (90 : Int))) else false)) then true else (bif (decide ((48 : Int) ≤ (((List.getD v0 (Int.toNat v2) 0).toNat : Nat) : Int))) then (decide ((((List.getD v0 (Int.toNat v2) 0).toNat : Nat) : Int) ≤ (57 : Int))) else false)) 0) else none) else some [⟨.bool, (decide ((0 : Int) < (v0.length : Int)))⟩]
theorem rbare_l0 (G : Nat → ASt E → Option (List (TV E))) (v0 v1 : List UInt8) (v2 : Int) : runL rbare_O rbare_H G Tryz.f173 0 (rbare_C0 v0 v1 v2) = rbare_t0 G v0 v1 v2 := by kernel_rfl
noncomputable def rbare_t1 (G : Nat → ASt E → Option (List (TV E))) (v0 v1 : List UInt8) (v2 v3 : Int) (v4 : Bool) (v5 : Int) : Option (List (TV E)) :=
  bif (decide (v5 < (v1.length : Int))) then (bif ((decide ((0 : Int) ≤ v5) && decide (v5 < (v1.length : Int))) || !(!v4)) then G 1 (rbare_C1 v0 v1 v2 v3 (bif v4 then true else ((((List.getD v1 (Int.toNat v5) 0).toNat : Nat) : Int) == v3)) (w64 (v5 + (1 : Int)))) else none) else (bif (!v4) then some [⟨.bool, false⟩] else G 0 (rbare_C0 v0 v1 (w64 (v2 + (1 : Int)))))
theorem rbare_l1 (G : Nat → ASt E → Option (List (TV E))) (v0 v1 : List UInt8) (v2 v3 : Int) (v4 : Bool) (v5 : Int) : runL rbare_O rbare_H G Tryz.f173 1 (rbare_C1 v0 v1 v2 v3 v4 v5) = rbare_t1 G v0 v1 v2 v3 v4 v5 := by kernel_rfl
theorem rbare_f : Tryz.prog.funcs[173]? = some Tryz.f173 := by kernel_rfl
theorem rbare_n : (Tryz.f173.name == "runtime.NumGoroutine") = false := by kernel_rfl
theorem rbare_b : Tryz.f173.body.isNone = false := by kernel_rfl
theorem rbare_hO : OracleOk E rbare_O := orac_ok .nil .nil .nil .nil
theorem rbare_s0 {res : List (TV E)} {v0 v1 : List UInt8} {v2 : Int} (h : rbare_t0 (Gr E Tryz.f173 res) v0 v1 v2 = some res) : Ev E Tryz.f173 res 0 (rbare_C0 v0 v1 v2) := Ev.step rbare_hO mix ((rbare_l0 _ v0 v1 v2).trans h)
theorem rbare_s1 {res : List (TV E)} {v0 v1 : List UInt8} {v2 v3 : Int} {v4 : Bool} {v5 : Int} (h : rbare_t1 (Gr E Tryz.f173 res) v0 v1 v2 v3 v4 v5 = some res) : Ev E Tryz.f173 res 1 (rbare_C1 v0 v1 v2 v3 v4 v5) := Ev.step rbare_hO mix ((rbare_l1 _ v0 v1 v2 v3 v4 v5).trans h)
theorem rbare_ok_of (h : ∀ (x0 : List UInt8), okL1 x0 = true → rbare_t (Gr E Tryz.f173 [⟨.bool, bareV x0⟩]) x0 = some [⟨.bool, bareV x0⟩]) : FnOk E rbare_id rbare_W := fn1_ok rbare_hO mix rbare_f rbare_n rbare_b (fun x0 hk => (rbare_e _ x0).trans (h x0 hk))
theorem rbare_1 (s : List UInt8) (i : Nat) (c : Int) (res : List (TV E)) (b0 : Bool) (K : (b0 || (moreS.any fun m => ((m.toNat : Nat) : Int) == c)) = true → Ev E Tryz.f173 res 0 (rbare_C0 s moreS (w64 ((i : Int) + 1)))) (K2 : (b0 || (moreS.any fun m => ((m.toNat : Nat) : Int) == c)) = false → res = [⟨.bool, false⟩]) :
    ∀ (m k : Nat) (b : Bool), 10 - k = m → k ≤ 10 → (b || ((moreS.drop k).any fun m => ((m.toNat : Nat) : Int) == c)) = (b0 || (moreS.any fun m => ((m.toNat : Nat) : Int) == c)) → Ev E Tryz.f173 res 1 (rbare_C1 s moreS i c b k) := by
  intro m
  induction m with
  | zero =>
    intro k b h1 h2 h3
    have hk : moreS.drop k = [] := List.drop_eq_nil_of_le (show moreS.length ≤ k by show 10 ≤ k; omega)
    rw [hk, List.any_nil, Bool.or_false] at h3
    refine rbare_s1 ?_
    simp only [rbare_t1, dge (show moreS.length ≤ k by show 10 ≤ k; omega), cond_false]
    cases b with
    | false => rw [K2 h3.symm]; rfl
    | true => exact Gr_of (K h3.symm)
  | succ m ih =>
    intro k b h1 h2 h3
    have hk : k < moreS.length := by show k < 10; omega
    have e1 : w64 ((k : Int) + 1) = ((k + 1 : Nat) : Int) := by rw [w64_id (by omega) (by omega)]; omega
    refine rbare_s1 ?_
    simp only [rbare_t1, dlt hk, d0, Bool.and_self, Bool.true_or, cond_true, e1, Int.toNat_natCast]
    refine Gr_of (ih (k + 1) _ (by omega) (by omega) ?_)
    rw [← h3, drop_at hk, List.any_cons]
    cases b <;> rfl
theorem rbare_0 (s : List UInt8) (hs : s.length ≤ 1000000) : ∀ (m i : Nat), s.length - i = m → i ≤ s.length → Ev E Tryz.f173 [⟨.bool, ((s.drop i).all fun c => okC ((c.toNat : Nat) : Int)) && !(s == [])⟩] 0 (rbare_C0 s moreS i) := by
  intro m
  induction m with
  | zero =>
    intro i h1 h2
    refine rbare_s0 ?_
    simp only [rbare_t0, dge (show s.length ≤ i by omega), cond_false, List.drop_eq_nil_of_le (show s.length ≤ i by omega), List.all_nil, Bool.true_and]
    cases s with
    | nil => rfl
    | cons c t => rw [dT (by simp only [List.length_cons]; omega)]; rfl
  | succ m ih =>
    intro i h1 h2
    have hi : i < s.length := by omega
    have e1 : w64 ((i : Int) + 1) = ((i + 1 : Nat) : Int) := by rw [w64_id (by omega) (by omega)]; omega
    refine rbare_s0 ?_
    rw [drop_at hi, List.all_cons]
    simp only [rbare_t0, dlt hi, d0, Bool.and_self, cond_true, Int.toNat_natCast]
    refine Gr_of (rbare_1 s i _ _ (ldB (((List.getD s i 0).toNat : Nat) : Int)) (fun h => ?_) (fun h => ?_) 10 0 _ rfl (Nat.zero_le _) rfl)
    · have h : okC (((List.getD s i 0).toNat : Nat) : Int) = true := h
      rw [h, Bool.true_and, e1]
      exact ih (i + 1) (by omega) (by omega)
    · have h : okC (((List.getD s i 0).toNat : Nat) : Int) = false := h
      rw [h]; rfl
theorem rbare_ok : FnOk E rbare_id rbare_W := rbare_ok_of fun s hk => Gr_of (rbare_0 s (okL1_iff.1 hk) _ 0 rfl (Nat.zero_le _))
noncomputable def rwjoin_W : FnW E := fn1 (E := E) .l_str .str okWj wjV
def rwjoin_id : FuncId := 146
noncomputable def rwjoin_O : Oracle E := orac [(173, rbare_W)] [] [] []
noncomputable def rwjoin_H : Hint E := Hint.mk [(0, [0, 3, 4]), (1, [0, 3, 4, 5])] [] [] [] []
noncomputable def rwjoin_C0 (v0 : List (List UInt8)) (v1 : List UInt8) (v2 : Int) : ASt E := ASt.mk 60 [(0, .d (.slice .str v0)), (3, .d (.str v1)), (4, .d (.int .i64 v2))] [] 0
noncomputable def rwjoin_C1 (v0 : List (List UInt8)) (v1 : List UInt8) (v2 v3 : Int) : ASt E := ASt.mk 60 [(0, .d (.slice .str v0)), (3, .d (.str v1)), (4, .d (.int .i64 v2)), (5, .d (.int .i64 v3))] [] 0
noncomputable def rwjoin_t (G : Nat → ASt E → Option (List (TV E))) (x0 : List (List UInt8)) : Option (List (TV E)) :=
  G 0 (rwjoin_C0 x0 [] 0)
theorem rwjoin_e (G : Nat → ASt E → Option (List (TV E))) (x0 : List (List UInt8)) : runE rwjoin_O rwjoin_H G Tryz.f146 [⟨.l_str, x0⟩] = rwjoin_t G x0 := by kernel_rfl
noncomputable def rwjoin_t0 (G : Nat → ASt E → Option (List (TV E))) (v0 : List (List UInt8)) (v1 : List UInt8) (v2 : Int) : Option (List (TV E)) :=
  bif (decide (v2 < (v0.length : Int))) then (bif (decide ((0 : Int) < v2)) then (bif (decide (v1.length + ([32] : List UInt8).length ≤ maxStr)) then (bif (decide ((0 : Int) ≤ v2) && decide (v2 < (v0.length : Int))) then (bif (okL1 (List.getD v0 (Int.toNat v2) (dflt .str))) then (bif (bareV (List.getD v0 (Int.toNat v2) (dflt .str))) then (bif (decide ((0 : Int) ≤ v2) && decide (v2 < (v0.length : Int))) then (bif (decide ((v1 ++ ([32] : List UInt8)).length + (List.getD v0 (Int.toNat v2) (dflt .str)).length ≤ maxStr)) then G 0 (rwjoin_C0 v0 ((v1 ++ ([32] : List UInt8)) ++ (List.getD v0 (Int.toNat v2) (dflt .str))) (w64 (v2 + (1 : Int)))) else none) else none) else (bif (decide ((v1 ++ ([32] : List UInt8)).length + ([39] : List UInt8).length ≤ maxStr)) then G 1 (rwjoin_C1 v0 ((v1 ++ ([32] : List UInt8)) ++ ([39] : List UInt8)) v2 0) else none)) else none) else none) else none) else (bif (decide ((0 : Int) ≤ v2) && decide (v2 < (v0.length : Int))) then (bif (okL1 (List.getD v0 (Int.toNat v2) (dflt .str))) then (bif (bareV (List.getD v0 (Int.toNat v2) (dflt .str))) then (bif (decide ((0 : Int) ≤ v2) && decide (v2 < (v0.length : Int))) then (bif (decide (v1.length + (List.getD v0 (Int.toNat v2) (dflt .str)).length ≤ maxStr)) then G 0 (rwjoin_C0 v0 (v1 ++ (List.getD v0 (Int.toNat v2) (dflt .str))) (w64 (v2 + (1 : Int)))) else none) else none) else (bif (decide (v1.length + ([39] : List UInt8).length ≤ maxStr)) then G 1 (rwjoin_C1 v0 (v1 ++ ([39] : List UInt8)) v2 0) else none)) else none) else none)) else some [⟨.str, v1⟩]
theorem rwjoin_l0 (G : Nat → ASt E → Option (List (TV E))) (v0 : List (List UInt8)) (v1 : List UInt8) (v2 : Int) : runL rwjoin_O rwjoin_H G Tryz.f146 0 (rwjoin_C0 v0 v1 v2) = rwjoin_t0 G v0 v1 v2 := by kernel_rfl
noncomputable def rwjoin_t1 (G : Nat → ASt E → Option (List (TV E))) (v0 : List (List UInt8)) (v1 : List UInt8) (v2 v3 : Int) : Option (List (TV E)) :=
  bif (decide ((0 : Int) ≤ v2) && decide (v2 < (v0.length : Int))) then (bif (decide (v3 < ((List.getD v0 (Int.toNat v2) (dflt .str)).length : Int))) then (bif (decide ((0 : Int) ≤ v2) && decide (v2 < (v0.length : Int))) then (bif (decide ((0 : Int) ≤ v3) && decide (v3 < ((List.getD v0 (Int.toNat v2) (dflt .str)).length : Int))) then (bif ((((List.getD (List.getD v0 (Int.toNat v2) (dflt .str)) (Int.toNat v3) 0).toNat : Nat) : Int) == (39 : Int)) then (bif (decide (v1.length + ([39, 92, 39] : List UInt8).length ≤ maxStr)) then (bif (decide ((0 : Int) ≤ v2) && decide (v2 < (v0.length : Int))) then (bif (decide ((0 : Int) ≤ v3) && decide (v3 ≤ (w64 (v3 + (1 : Int)))) && decide ((w64 (v3 + (1 : Int))) ≤ ((List.getD v0 (Int.toNat v2) (dflt .str)).length : Int))) then (bif (decide ((v1 ++ ([39, 92, 39] : List UInt8)).length + (List.take (Int.toNat (w64 (v3 + (1 : Int))) - Int.toNat v3) (List.drop (Int.toNat v3) (List.getD v0 (Int.toNat v2) (dflt .str)))).length ≤ maxStr)) then G 1 (rwjoin_C1 v0 ((v1 ++ ([39, 92, 39] : List UInt8)) ++ (List.take (Int.toNat (w64 (v3 + (1 : Int))) - Int.toNat v3) (List.drop (Int.toNat v3) (List.getD v0 (Int.toNat v2) (dflt .str))))) v2 (w64 (v3 + (1 : Int)))) else none) else none) else none) else none) else (bif (decide ((0 : Int) ≤ v2) && decide (v2 < (v0.length : Int))) then (bif (decide ((0 : Int) ≤ v3) && decide (v3 ≤ (w64 (v3 + (1 : Int)))) && decide ((w64 (v3 + (1 : Int))) ≤ ((List.getD v0 (Int.toNat v2) (dflt .str)).length : Int))) then (bif (decide (v1.length + (List.take (Int.toNat (w64 (v3 + (1 : Int))) - Int.toNat v3) (List.drop (Int.toNat v3) (List.getD v0 (Int.toNat v2) (dflt .str)))).length ≤ maxStr)) then G 1 (rwjoin_C1 v0 (v1 ++ (List.take (Int.toNat (w64 (v3 + (1 : Int))) - Int.toNat v3) (List.drop (Int.toNat v3) (List.getD v0 (Int.toNat v2) (dflt .str))))) v2 (w64 (v3 + (1 : Int)))) else none) else none) else none)) else none) else none) else (bif (decide (v1.length + ([39] : List UInt8).length ≤ maxStr)) then G 0 (rwjoin_C0 v0 (v1 ++ ([39] : List UInt8)) (w64 (v2 + (1 : Int)))) else none)) else none
theorem rwjoin_l1 (G : Nat → ASt E → Option (List (TV E))) (v0 : List (List UInt8)) (v1 : List UInt8) (v2 v3 : Int) : runL rwjoin_O rwjoin_H G Tryz.f146 1 (rwjoin_C1 v0 v1 v2 v3) = rwjoin_t1 G v0 v1 v2 v3 := by kernel_rfl
theorem rwjoin_f : Tryz.prog.funcs[146]? = some Tryz.f146 := by kernel_rfl
theorem rwjoin_n : (Tryz.f146.name == "runtime.NumGoroutine") = false := by kernel_rfl
theorem rwjoin_b : Tryz.f146.body.isNone = false := by kernel_rfl
theorem rwjoin_hO : OracleOk E rwjoin_O := orac_ok (.cons rbare_ok .nil) .nil .nil .nil
theorem rwjoin_s0 {res : List (TV E)} {v0 : List (List UInt8)} {v1 : List UInt8} {v2 : Int} (h : rwjoin_t0 (Gr E Tryz.f146 res) v0 v1 v2 = some res) : Ev E Tryz.f146 res 0 (rwjoin_C0 v0 v1 v2) := Ev.step rwjoin_hO mix ((rwjoin_l0 _ v0 v1 v2).trans h)
theorem rwjoin_s1 {res : List (TV E)} {v0 : List (List UInt8)} {v1 : List UInt8} {v2 v3 : Int} (h : rwjoin_t1 (Gr E Tryz.f146 res) v0 v1 v2 v3 = some res) : Ev E Tryz.f146 res 1 (rwjoin_C1 v0 v1 v2 v3) := Ev.step rwjoin_hO mix ((rwjoin_l1 _ v0 v1 v2 v3).trans h)
theorem rwjoin_ok_of (h : ∀ (x0 : List (List UInt8)), okWj x0 = true → rwjoin_t (Gr E Tryz.f146 [⟨.str, wjV x0⟩]) x0 = some [⟨.str, wjV x0⟩]) : FnOk E rwjoin_id rwjoin_W := fn1_ok rwjoin_hO mix rwjoin_f rwjoin_n rwjoin_b (fun x0 hk => (rwjoin_e _ x0).trans (h x0 hk))
def jTl (l : List (List UInt8)) : List UInt8 := l.flatMap fun x => 32 :: qtV x
theorem wj_cons (x : List UInt8) : ∀ t : List (List UInt8), wjV (x :: t) = qtV x ++ jTl t
  | [] => by simp [wjV, Lib.join, List.intercalate, jTl]
  | y :: t => by
    have ih := wj_cons y t
    have e : wjV (x :: y :: t) = qtV x ++ [32] ++ wjV (y :: t) := by simp [wjV, Lib.join, List.intercalate, List.intersperse]
    rw [e, ih]
    simp [jTl]
def bqV (c : UInt8) : List UInt8 := bif (((c.toNat : Nat) : Int) == 39) then [39, 92, 39, 39] else [c]
theorem rep_bq : ∀ s : List UInt8, rep1 39 [39, 92, 39, 39] s = s.flatMap bqV
  | [] => rfl
  | c :: t => by
    rw [rep1_cons, List.flatMap_cons, rep_bq t]
    unfold bqV
    by_cases h : c = 39
    · subst h; rfl
    · rw [if_neg (by simpa using h), eqF (show ((c.toNat : Nat) : Int) ≠ 39 from fun e => h (UInt8.toNat_inj.1 (show c.toNat = 39 by omega)))]; rfl
theorem rwjoin_1 (l : List (List UInt8)) (i : Nat) (hi : i < l.length) (hx : l[i].length ≤ 10000) (res : List (TV E)) (o0 : List UInt8) (ho : o0.length ≤ 1000000000)
    (K : Ev E Tryz.f146 res 0 (rwjoin_C0 l (o0 ++ rep1 39 [39, 92, 39, 39] l[i] ++ [39]) (w64 ((i : Int) + 1)))) :
    ∀ (m k : Nat) (out : List UInt8), l[i].length - k = m → k ≤ l[i].length → out = o0 ++ (l[i].take k).flatMap bqV → Ev E Tryz.f146 res 1 (rwjoin_C1 l out i k) := by
  have hlen : ∀ t : List UInt8, (t.flatMap bqV).length ≤ 4 * t.length := fun t => by
    induction t with
    | nil => exact Nat.le_refl _
    | cons c t ih =>
      have : (bqV c).length ≤ 4 := by unfold bqV; cases (((c.toNat : Nat) : Int) == 39) <;> simp
      rw [List.flatMap_cons, List.length_append, List.length_cons]; omega
  intro m
  induction m with
  | zero =>
    intro k out h1 h2 h3
    have hl := hlen (l[i].take k)
    have ht : (l[i].take k).length ≤ l[i].length := by rw [List.length_take]; omega
    have hol : out.length ≤ 1000040000 := by rw [h3, List.length_append]; omega
    refine rwjoin_s1 ?_
    simp only [rwjoin_t1, dlt hi, d0, gd l _ i hi, Bool.and_self, cond_true, dge (show l[i].length ≤ k by omega), cond_false]
    rw [msT (show out.length + [(39 : UInt8)].length ≤ 4611686018427387904 by rw [List.length_singleton]; omega), cond_true]
    rw [h3, List.take_of_length_le (show l[i].length ≤ k by omega), ← rep_bq]
    exact Gr_of K
  | succ m ih =>
    intro k out h1 h2 h3
    have hk : k < l[i].length := by omega
    have hl := hlen (l[i].take k)
    have ht : (l[i].take k).length ≤ l[i].length := by rw [List.length_take]; omega
    have hol : out.length ≤ 1000040000 := by rw [h3, List.length_append]; omega
    have e1 : w64 ((k : Int) + 1) = ((k + 1 : Nat) : Int) := by rw [w64_id (by omega) (by omega)]; omega
    have c1 : List.take (k + 1 - k) (List.drop k l[i]) = [l[i].getD k 0] := by rw [drop_at hk, show k + 1 - k = 1 by omega]; rfl
    have next := ih (k + 1) (out ++ bqV (l[i].getD k 0)) (by omega) (by omega) (by
      rw [h3, List.take_succ_eq_append_getElem hk, List.flatMap_append, List.append_assoc]
      have : l[i].getD k 0 = l[i][k] := by rw [List.getD, List.getElem?_eq_getElem hk]; rfl
      rw [this, List.flatMap_cons, List.flatMap_nil, List.append_nil])
    refine rwjoin_s1 ?_
    simp only [rwjoin_t1, dlt hi, d0, gd l _ i hi, Bool.and_self, cond_true, dlt hk, e1, dle (show k ≤ k + 1 by omega), dle (show k + 1 ≤ l[i].length by omega)]
    simp only [Int.toNat_natCast, c1]
    rw [msT (show out.length + ([39, 92, 39] : List UInt8).length ≤ 4611686018427387904 by simp only [List.length_cons, List.length_nil]; omega), msT (show (out ++ ([39, 92, 39] : List UInt8)).length + [l[i].getD k 0].length ≤ 4611686018427387904 by simp only [List.length_append, List.length_cons, List.length_nil]; omega),
      msT (show out.length + [l[i].getD k 0].length ≤ 4611686018427387904 by rw [List.length_singleton]; omega)]
    simp only [cond_true]
    unfold bqV at next
    cases hc : ((List.getD l[i] k 0).toNat : Int) == 39 with
    | true =>
      rw [hc] at next
      have h39 : l[i].getD k 0 = 39 := UInt8.toNat_inj.1 (by show (l[i].getD k 0).toNat = 39; have := eq_of_beq hc; omega)
      rw [h39, List.append_assoc]
      exact Gr_of next
    | false => rw [hc] at next; exact Gr_of next
theorem rwjoin_0 (l : List (List UInt8)) (hl : l.length ≤ 1000) (hx : ∀ x ∈ l, x.length ≤ 10000) : ∀ (m i : Nat) (out : List UInt8), l.length - i = m → i ≤ l.length → out.length ≤ i * 60000 → wjV l = out ++ (bif decide (0 < i) then jTl (l.drop i) else wjV (l.drop i)) → Ev E Tryz.f146 [⟨.str, wjV l⟩] 0 (rwjoin_C0 l out i) := by
  intro m
  induction m with
  | zero =>
    intro i out h1 h2 h3 h4
    rw [List.drop_eq_nil_of_le (show l.length ≤ i by omega)] at h4
    have h4 : wjV l = out := by
      rw [h4]
      cases decide (0 < i) <;> exact List.append_nil _
    refine rwjoin_s0 ?_
    simp only [rwjoin_t0, dge (show l.length ≤ i by omega), cond_false]
    rw [h4]
  | succ m ih =>
    intro i out h1 h2 h3 h4
    have hi : i < l.length := by omega
    have e1 : w64 ((i : Int) + 1) = ((i + 1 : Nat) : Int) := by rw [w64_id (by omega) (by omega)]; omega
    have hxi := hx _ (List.getElem_mem hi)
    have o1 : okL1 l[i] = true := okL1_iff.2 (by omega)
    have hq := qt_len (s := l[i])
    have K : ∀ o : List UInt8, o = (out ++ (bif decide (0 < i) then [32] else [])) ++ qtV l[i] → Ev E Tryz.f146 [⟨.str, wjV l⟩] 0 (rwjoin_C0 l o (w64 ((i : Int) + 1))) := fun o ho => by
      rw [e1]
      refine ih (i + 1) o (by omega) (by omega) ?_ ?_
      · rw [ho, List.length_append, List.length_append]
        cases decide (0 < i) <;> simp only [cond_true, cond_false, List.length_cons, List.length_nil] <;> omega
      · rw [h4, ho, dT (show 0 < i + 1 by omega), cond_true, ← List.getElem_cons_drop hi]
        cases decide (0 < i) with
        | true =>
          unfold jTl
          rw [cond_true, cond_true, List.flatMap_cons]
          simp only [List.append_assoc, List.cons_append, List.nil_append]
        | false => rw [cond_false, cond_false, List.append_nil, wj_cons, List.append_assoc]
    have hdec : decide ((0 : Int) < (i : Int)) = decide (0 < i) := decide_eq_decide.2 (by omega)
    refine rwjoin_s0 ?_
    simp only [rwjoin_t0, dlt hi, d0, gd l _ i hi, Bool.and_self, cond_true, o1, hdec]
    rw [msT (show out.length + [(32 : UInt8)].length ≤ 4611686018427387904 by rw [List.length_singleton]; omega), msT (show (out ++ [(32 : UInt8)]).length + l[i].length ≤ 4611686018427387904 by rw [List.length_append, List.length_singleton]; omega),
      msT (show (out ++ [(32 : UInt8)]).length + [(39 : UInt8)].length ≤ 4611686018427387904 by simp only [List.length_append, List.length_singleton]; omega), msT (show out.length + l[i].length ≤ 4611686018427387904 by omega), msT (show out.length + [(39 : UInt8)].length ≤ 4611686018427387904 by rw [List.length_singleton]; omega)]
    simp only [cond_true]
    unfold qtV at K
    cases hd : decide (0 < i) <;> cases hb : bareV l[i] <;> rw [hd, hb] at K <;> simp only [cond_true, cond_false, List.append_nil] at K ⊢
    · exact Gr_of (rwjoin_1 l i hi hxi _ (out ++ [39]) (by rw [List.length_append, List.length_singleton]; omega) (K _ (by simp only [List.append_assoc])) _ 0 _ rfl (Nat.zero_le _) (by simp))
    · exact Gr_of (K _ rfl)
    · exact Gr_of (rwjoin_1 l i hi hxi _ (out ++ [32] ++ [39]) (by simp only [List.length_append, List.length_singleton]; omega) (K _ (by simp only [List.append_assoc])) _ 0 _ rfl (Nat.zero_le _) (by simp))
    · exact Gr_of (K _ rfl)
theorem rwjoin_ok : FnOk E rwjoin_id rwjoin_W := rwjoin_ok_of fun l hk => by
  obtain ⟨h1, h2⟩ := okWj_iff.1 hk
  exact Gr_of (rwjoin_0 l h1 h2 _ 0 [] rfl (Nat.zero_le _) (Nat.zero_le _) rfl)
end Go.Proofs.YtgniedpgdjmfpaaGreatDoor.Rf
namespace Go.Proofs.YtgniedpgdjmfpaaGreatDoor.Rf
open Go Go.RowKit Go.Sort Go.Proofs.YtgniedpgdjmfpaaGreatDoor.Mir
def pfD : List UInt8 → Nat
  | [] => 0
  | c :: t => bif isD c then pfD t + 1 else 0
theorem pfD_le : ∀ s : List UInt8, pfD s ≤ s.length
  | [] => Nat.le_refl _
  | c :: t => by
    unfold pfD
    have := pfD_le t
    cases isD c with
    | true => rw [cond_true, List.length_cons]; omega
    | false => exact Nat.zero_le _
def lgN : Nat → Nat
  | 0 => 3600000
  | 1 => 60000
  | 2 => 1000
  | _ => 1
def gU : List UInt8 → Nat × Nat
  | [] => (0, 0)
  | c :: t => bif (((c.toNat : Nat) : Int) == 104) then (0, 1)
    else bif (((c.toNat : Nat) : Int) == 109) then (match t with
      | [] => (1, 1)
      | d :: _ => bif (((d.toNat : Nat) : Int) == 115) then (3, 2) else (1, 1))
    else bif (((c.toNat : Nat) : Int) == 115) then (2, 1) else (0, 0)
theorem gU_le (s : List UInt8) : (gU s).2 ≤ s.length ∧ (gU s).1 ≤ 3 ∧ (gU s).2 ≤ 2 := by
  match s with
  | [] => simp [gU]
  | [c] =>
    simp only [gU]
    cases (((c.toNat : Nat) : Int) == 104) <;> cases (((c.toNat : Nat) : Int) == 109) <;> cases (((c.toNat : Nat) : Int) == 115) <;> simp
  | c :: d :: t =>
    simp only [gU]
    cases (((c.toNat : Nat) : Int) == 104) <;> cases (((c.toNat : Nat) : Int) == 109) <;> cases (((d.toNat : Nat) : Int) == 115) <;> cases (((c.toNat : Nat) : Int) == 115) <;> simp
def gH (s : List UInt8) : List UInt8 := s.take (pfD s)
def gX (s : List UInt8) : Nat × Nat := gU (s.drop (pfD s))
def gR (s : List UInt8) : List UInt8 := s.drop (pfD s + (gX s).2)
theorem gX_le (s : List UInt8) : pfD s + (gX s).2 ≤ s.length ∧ (gX s).1 ≤ 3 ∧ (gX s).2 ≤ 2 := by
  have h := gU_le (s.drop (pfD s))
  have := pfD_le s
  rw [List.length_drop] at h
  unfold gX
  omega
theorem gH_len (s : List UInt8) : (gH s).length ≤ s.length := by unfold gH; rw [List.length_take]; omega
theorem gR_len (s : List UInt8) : (gR s).length = s.length - (pfD s + (gX s).2) := by unfold gR; rw [List.length_drop]
def gBad (last : Int) (s : List UInt8) : Bool := bif (bif (bif (gX s).2 == 0 then true else !(wholeB (gH s))) then true else decide (((gX s).1 : Int) ≤ last)) then true else bif gH s == [48] then (bif decide (0 ≤ last) then true else decide ((0 : Int) < ((gR s).length : Int))) else false
def dSum : Nat → Int → List UInt8 → Option Nat
  | 0, _, _ => none
  | f + 1, last, s => bif s == [] then (bif decide (last < 0) then none else some 0) else
    bif gBad last s then none else (dSum f (gX s).1 (gR s)).map (valN (gH s) 0 * lgN (gX s).1 + ·)
def dFin : Option Nat → Int × Int
  | none => (0, 3)
  | some t => bif decide ((1099511627776 : Int) < (t : Int)) then (0, 9) else ((t : Int), 0)
def durP (s : List UInt8) : Int × Int := dFin (dSum (s.length + 1) (-1) s)
def durV (s : List UInt8) : Int := (durP s).1
def durE (s : List UInt8) : Int := (durP s).2
abbrev dRes (o : Option Nat) : List (TV E) := [⟨.int, (dFin o).1⟩, ⟨.api_Errno, (dFin o).2⟩]
theorem dSum_bad {f : Nat} {last : Int} {s : List UInt8} (hs : s ≠ []) (h : gBad last s = true) : dSum (f + 1) last s = none := by
  have : (s == []) = false := by simpa using hs
  rw [dSum, this, h]; rfl
theorem dSum_good {f : Nat} {last : Int} {s : List UInt8} (hs : s ≠ []) (h : gBad last s = false) (T : Nat) : (dSum (f + 1) last s).map (T + ·) = (dSum f (gX s).1 (gR s)).map ((T + valN (gH s) 0 * lgN (gX s).1) + ·) := by
  have : (s == []) = false := by simpa using hs
  rw [dSum, this, h]
  cases dSum f (gX s).1 (gR s) with
  | none => rfl
  | some t => simp [Nat.add_assoc]
theorem dSum_none {f : Nat} {last : Int} {s : List UInt8} (hs : s ≠ []) (h : gBad last s = true) (T : Nat) : (dSum (f + 1) last s).map (T + ·) = none := by rw [dSum_bad hs h]; rfl
theorem gBad_ok {last : Int} {s : List UInt8} (h : gBad last s = false) : (gX s).2 ≠ 0 ∧ wholeB (gH s) = true ∧ last < ((gX s).1 : Int) := by
  unfold gBad at h
  by_cases h1 : (gX s).2 = 0
  · rw [show ((gX s).2 == 0) = true from by rw [h1]; rfl] at h; cases h
  · have e1 : ((gX s).2 == 0) = false := by simpa using h1
    rw [e1, cond_false] at h
    cases h2 : wholeB (gH s) with
    | false => rw [h2] at h; cases h
    | true =>
      rw [h2] at h
      by_cases h3 : ((gX s).1 : Int) ≤ last
      · rw [dT h3] at h; cases h
      · exact ⟨h1, rfl, by omega⟩
theorem whole_zero {h : List UInt8} (hw : wholeB h = true) : (valN h 0 == 0) = (h == [48]) := by
  unfold wholeB at hw
  rw [Bool.and_eq_true] at hw
  match h, hw with
  | [], hw => cases hw.1
  | [c], hw =>
    have hd : isD c = true := by simpa using hw.2
    have := isD_iff.1 hd
    by_cases h48 : c = 48
    · subst h48; rfl
    · have e1 : ([c] == [(48 : UInt8)]) = false := by simpa using h48
      have : c.toNat ≠ 48 := fun e => h48 (UInt8.toNat_inj.1 e)
      rw [e1]
      show ((0 * 10 + (c.toNat - 48)) == 0) = false
      simp; omega
  | c :: d :: t, hw =>
    have e1 : ((c :: d :: t) == [(48 : UInt8)]) = false := by simp
    have h48 : (c == 48) = false := by simpa [lead0] using hw.1
    have hd : isD c = true := by
      have := hw.2
      rw [List.all_cons, Bool.and_eq_true] at this
      exact this.1
    have := isD_iff.1 hd
    have hne : c.toNat ≠ 48 := fun e => by
      rw [UInt8.toNat_inj.1 (show c.toNat = (48 : UInt8).toNat from e)] at h48
      cases h48
    have hb := valN_ge (d :: t) (0 * 10 + (c.toNat - 48))
    have : valN (c :: d :: t) 0 = valN (d :: t) (0 * 10 + (c.toNat - 48)) := rfl
    rw [e1, this]
    simp only [beq_eq_false_iff_ne]
    omega
theorem lg_ge (u : Nat) : 1 ≤ lgN u ∧ lgN u ≤ 3600000 := by
  unfold lgN
  split <;> omega
noncomputable def dfig_W : FnW E := fn1 (E := E) .str .int okL1 (fun s => (pfD s : Int))
def dfig_id : FuncId := 131
noncomputable def dfig_O : Oracle E := orac [] [] [] []
noncomputable def dfig_H : Hint E := Hint.mk [(0, [0, 3])] [] [] [] []
noncomputable def dfig_C0 (v0 : List UInt8) (v1 : Int) : ASt E := ASt.mk 23 [(0, .d (.str v0)), (3, .d (.int .i64 v1))] [] 0
noncomputable def dfig_t (G : Nat → ASt E → Option (List (TV E))) (x0 : List UInt8) : Option (List (TV E)) :=
  G 0 (dfig_C0 x0 0)
theorem dfig_e (G : Nat → ASt E → Option (List (TV E))) (x0 : List UInt8) : runE dfig_O dfig_H G Tryz.f131 [⟨.str, x0⟩] = dfig_t G x0 := by kernel_rfl
noncomputable def dfig_t0 (G : Nat → ASt E → Option (List (TV E))) (v0 : List UInt8) (v1 : Int) : Option (List (TV E)) :=
  bif ((decide ((0 : Int) ≤ v1) && decide (v1 < (v0.length : Int))) || !(decide (v1 < (v0.length : Int)))) then (bif ((decide ((0 : Int) ≤ v1) && decide (v1 < (v0.length : Int))) || !(bif (decide (v1 < (v0.length : Int))) then (decide ((48 : Int) ≤ (((List.getD v0 (Int.toNat v1) 0).toNat : Nat) : Int))) else false)) then (bif (bif (bif (decide (v1 < (v0.length : Int))) then (decide ((48 : Int) ≤ (((List.getD v0 (Int.toNat v1) 0).toNat : Nat) : Int))) else false) then (decide ((((List.getD v0 (Int.toNat v1) 0).toNat : Nat) : Int) ≤ (57 : Int))) else false) then G 0 (dfig_C0 v0 (w64 (v1 + (1 : Int)))) else some [⟨.int, v1⟩]) else none) else none
theorem dfig_l0 (G : Nat → ASt E → Option (List (TV E))) (v0 : List UInt8) (v1 : Int) : runL dfig_O dfig_H G Tryz.f131 0 (dfig_C0 v0 v1) = dfig_t0 G v0 v1 := by kernel_rfl
theorem dfig_f : Tryz.prog.funcs[131]? = some Tryz.f131 := by kernel_rfl
theorem dfig_n : (Tryz.f131.name == "runtime.NumGoroutine") = false := by kernel_rfl
theorem dfig_b : Tryz.f131.body.isNone = false := by kernel_rfl
theorem dfig_hO : OracleOk E dfig_O := orac_ok .nil .nil .nil .nil
theorem dfig_s0 {res : List (TV E)} {v0 : List UInt8} {v1 : Int} (h : dfig_t0 (Gr E Tryz.f131 res) v0 v1 = some res) : Ev E Tryz.f131 res 0 (dfig_C0 v0 v1) := Ev.step dfig_hO mix ((dfig_l0 _ v0 v1).trans h)
theorem dfig_ok_of (h : ∀ (x0 : List UInt8), okL1 x0 = true → dfig_t (Gr E Tryz.f131 [⟨.int, (fun s => (pfD s : Int)) x0⟩]) x0 = some [⟨.int, (fun s => (pfD s : Int)) x0⟩]) : FnOk E dfig_id dfig_W := fn1_ok dfig_hO mix dfig_f dfig_n dfig_b (fun x0 hk => (dfig_e _ x0).trans (h x0 hk))
theorem dfig_0 (s : List UInt8) (hs : s.length ≤ 1000000) : ∀ (m i : Nat), s.length - i = m → i ≤ s.length → pfD s = i + pfD (s.drop i) → Ev E Tryz.f131 [⟨.int, (pfD s : Int)⟩] 0 (dfig_C0 s i) := by
  intro m
  induction m with
  | zero =>
    intro i h1 h2 h3
    rw [List.drop_eq_nil_of_le (show s.length ≤ i by omega)] at h3
    have h3 : pfD s = i := h3
    refine dfig_s0 ?_
    simp only [dfig_t0, dge (show s.length ≤ i by omega), cond_false, Bool.not_false, Bool.or_true, cond_true]
    rw [h3]
  | succ m ih =>
    intro i h1 h2 h3
    have hi : i < s.length := by omega
    have e1 : w64 ((i : Int) + 1) = ((i + 1 : Nat) : Int) := by rw [w64_id (by omega) (by omega)]; omega
    rw [drop_at hi, pfD] at h3
    refine dfig_s0 ?_
    simp only [dfig_t0, dlt hi, d0, Bool.and_self, Bool.true_or, cond_true, Int.toNat_natCast, isD_b, e1]
    cases hd : isD (s.getD i 0) with
    | false =>
      rw [hd, cond_false] at h3
      have h3 : pfD s = i := h3
      rw [h3]; rfl
    | true =>
      rw [hd, cond_true] at h3
      exact Gr_of (ih (i + 1) (by omega) (by omega) (by omega))
theorem dfig_ok : FnOk E dfig_id dfig_W := dfig_ok_of fun s hk => Gr_of (dfig_0 s (okL1_iff.1 hk) _ 0 rfl (Nat.zero_le _) (by rw [List.drop_zero, Nat.zero_add]))
def duP (s : List UInt8) : Int := bif (gU s).2 == 0 then 0 else ((gU s).1 : Int) + 1
def duL (s : List UInt8) : Int := bif (gU s).2 == 0 then 0 else (lgN (gU s).1 : Int)
def duS (s : List UInt8) : Int := ((gU s).2 : Int)
noncomputable def dunit_W : FnW E := fn13 (E := E) .str .int .int .int (fun _ => true) duP duL duS
def dunit_id : FuncId := 132
noncomputable def dunit_O : Oracle E := orac [] [] [] []
noncomputable def dunit_H : Hint E := Hint.mk [] [] [] [] []
noncomputable def dunit_t (_G : Nat → ASt E → Option (List (TV E))) (x0 : List UInt8) : Option (List (TV E)) :=
  bif (x0 == ([] : List UInt8)) then some [⟨.int, (0 : Int)⟩, ⟨.int, (0 : Int)⟩, ⟨.int, (0 : Int)⟩] else (bif (decide ((0 : Int) ≤ (0 : Int)) && decide ((0 : Int) < (x0.length : Int))) then (bif ((((List.getD x0 (Int.toNat 0) 0).toNat : Nat) : Int) == (104 : Int)) then some [⟨.int, (1 : Int)⟩, ⟨.int, (3600000 : Int)⟩, ⟨.int, (1 : Int)⟩] else (bif ((((List.getD x0 (Int.toNat 0) 0).toNat : Nat) : Int) == (109 : Int)) then (bif ((decide ((0 : Int) ≤ (1 : Int)) && decide ((1 : Int) < (x0.length : Int))) || !(!(decide ((x0.length : Int) < (2 : Int))))) then (bif (bif (decide ((x0.length : Int) < (2 : Int))) then true else ((((List.getD x0 (Int.toNat 1) 0).toNat : Nat) : Int) != (115 : Int))) then some [⟨.int, (2 : Int)⟩, ⟨.int, (60000 : Int)⟩, ⟨.int, (1 : Int)⟩] else some [⟨.int, (4 : Int)⟩, ⟨.int, (1 : Int)⟩, ⟨.int, (2 : Int)⟩]) else none) else (bif ((((List.getD x0 (Int.toNat 0) 0).toNat : Nat) : Int) == (115 : Int)) then some [⟨.int, (3 : Int)⟩, ⟨.int, (1000 : Int)⟩, ⟨.int, (1 : Int)⟩] else some [⟨.int, (0 : Int)⟩, ⟨.int, (0 : Int)⟩, ⟨.int, (0 : Int)⟩]))) else none)
theorem dunit_e (G : Nat → ASt E → Option (List (TV E))) (x0 : List UInt8) : runE dunit_O dunit_H G Tryz.f132 [⟨.str, x0⟩] = dunit_t G x0 := by kernel_rfl
theorem dunit_f : Tryz.prog.funcs[132]? = some Tryz.f132 := by kernel_rfl
theorem dunit_n : (Tryz.f132.name == "runtime.NumGoroutine") = false := by kernel_rfl
theorem dunit_b : Tryz.f132.body.isNone = false := by kernel_rfl
theorem dunit_hO : OracleOk E dunit_O := orac_ok .nil .nil .nil .nil
theorem dunit_ok_of (h : ∀ (x0 : List UInt8), dunit_t (Gr E Tryz.f132 [⟨.int, duP x0⟩, ⟨.int, duL x0⟩, ⟨.int, duS x0⟩]) x0 = some [⟨.int, duP x0⟩, ⟨.int, duL x0⟩, ⟨.int, duS x0⟩]) : FnOk E dunit_id dunit_W := fn13_ok dunit_hO mix dunit_f dunit_n dunit_b (fun x0 _ => (dunit_e _ x0).trans (h x0))
theorem dunit_ok : FnOk E dunit_id dunit_W := dunit_ok_of fun s => by
  unfold duP duL duS
  match s with
  | [] => rfl
  | [c] =>
    have e0 : Int.toNat (0 : Int) = 0 := rfl
    have g0 : List.getD [c] 0 0 = c := rfl
    simp only [dunit_t, show ([c] == ([] : List UInt8)) = false from rfl, e0, g0, List.length_singleton, show decide (((1 : Nat) : Int) < 2) = true from rfl, show (decide ((0 : Int) ≤ 0) && decide ((0 : Int) < ((1 : Nat) : Int))) = true from rfl, cond_true, cond_false, Bool.not_true, Bool.not_false, Bool.or_true, gU]
    cases ((c.toNat : Int) == 104) <;> cases ((c.toNat : Int) == 109) <;> cases ((c.toNat : Int) == 115) <;> rfl
  | c :: d :: t =>
    have e0 : Int.toNat (0 : Int) = 0 := rfl
    have e1 : Int.toNat (1 : Int) = 1 := rfl
    have g0 : List.getD (c :: d :: t) 0 0 = c := rfl
    have g1 : List.getD (c :: d :: t) 1 0 = d := rfl
    have l0 : decide ((0 : Int) < ((c :: d :: t).length : Int)) = true := dT (by simp only [List.length_cons]; omega)
    have l1 : decide ((1 : Int) < ((c :: d :: t).length : Int)) = true := dT (by simp only [List.length_cons]; omega)
    have l2 : decide (((c :: d :: t).length : Int) < 2) = false := dF (by simp only [List.length_cons]; omega)
    have hn : ((d.toNat : Int) != 115) = !((d.toNat : Int) == 115) := rfl
    simp only [dunit_t, show ((c :: d :: t) == ([] : List UInt8)) = false from rfl, e0, e1, g0, g1, l0, l1, l2, show decide ((0 : Int) ≤ 0) = true from rfl, show decide ((0 : Int) ≤ 1) = true from rfl, cond_true, cond_false, Bool.and_self, Bool.true_or, gU, hn]
    cases ((c.toNat : Int) == 104) <;> cases ((c.toNat : Int) == 109) <;> cases ((d.toNat : Int) == 115) <;> cases ((c.toNat : Int) == 115) <;> rfl
noncomputable def dparse_W : FnW E := fn12 (E := E) .str .int .api_Errno okL1 durV durE
def dparse_id : FuncId := 79
noncomputable def dparse_O : Oracle E := orac [(58, dcount_W), (131, dfig_W), (132, dunit_W)] [] [] []
noncomputable def dparse_H : Hint E := Hint.mk [(0, [0, 4, 5, 6, 7])] [] [] [] []
noncomputable def dparse_C0 (v0 : List UInt8) (v1 v2 : Int) (v3 : Bool) (v4 : Int) : ASt E := ASt.mk 105 [(0, .d (.str v0)), (4, .d (.int .i64 v1)), (5, .d (.int .i64 v2)), (6, .d (.bool v3)), (7, .d (.int .i64 v4))] [] 0
noncomputable def dparse_t (G : Nat → ASt E → Option (List (TV E))) (x0 : List UInt8) : Option (List (TV E)) :=
  G 0 (dparse_C0 x0 0 0 false 0)
theorem dparse_e (G : Nat → ASt E → Option (List (TV E))) (x0 : List UInt8) : runE dparse_O dparse_H G Tryz.f79 [⟨.str, x0⟩] = dparse_t G x0 := by kernel_rfl
noncomputable def dparse_t0 (G : Nat → ASt E → Option (List (TV E))) (v0 : List UInt8) (v1 v2 : Int) (v3 : Bool) (v4 : Int) : Option (List (TV E)) :=
  bif (bif (decide (v4 < (v0.length : Int))) then true else (v2 == (0 : Int))) then (bif (decide ((0 : Int) ≤ v4) && decide (v4 ≤ (v0.length : Int)) && decide ((v0.length : Int) ≤ (v0.length : Int))) then (bif (okL1 (List.take (Int.toNat (v0.length : Int) - Int.toNat v4) (List.drop (Int.toNat v4) v0))) then (bif (decide ((0 : Int) ≤ v4) && decide (v4 ≤ (w64 (v4 + ((fun s => (pfD s : Int)) (List.take (Int.toNat (v0.length : Int) - Int.toNat v4) (List.drop (Int.toNat v4) v0)))))) && decide ((w64 (v4 + ((fun s => (pfD s : Int)) (List.take (Int.toNat (v0.length : Int) - Int.toNat v4) (List.drop (Int.toNat v4) v0))))) ≤ (v0.length : Int))) then (bif (pokW (List.take (Int.toNat (w64 (v4 + ((fun s => (pfD s : Int)) (List.take (Int.toNat (v0.length : Int) - Int.toNat v4) (List.drop (Int.toNat v4) v0))))) - Int.toNat v4) (List.drop (Int.toNat v4) v0)) 1099511627776) then (bif (decide ((0 : Int) ≤ (w64 (v4 + ((fun s => (pfD s : Int)) (List.take (Int.toNat (v0.length : Int) - Int.toNat v4) (List.drop (Int.toNat v4) v0)))))) && decide ((w64 (v4 + ((fun s => (pfD s : Int)) (List.take (Int.toNat (v0.length : Int) - Int.toNat v4) (List.drop (Int.toNat v4) v0))))) ≤ (v0.length : Int)) && decide ((v0.length : Int) ≤ (v0.length : Int))) then (bif (bif (bif ((pwholeE (List.take (Int.toNat (w64 (v4 + ((fun s => (pfD s : Int)) (List.take (Int.toNat (v0.length : Int) - Int.toNat v4) (List.drop (Int.toNat v4) v0))))) - Int.toNat v4) (List.drop (Int.toNat v4) v0)) 1099511627776) == (3 : Int)) then true else ((duS (List.take (Int.toNat (v0.length : Int) - Int.toNat (w64 (v4 + ((fun s => (pfD s : Int)) (List.take (Int.toNat (v0.length : Int) - Int.toNat v4) (List.drop (Int.toNat v4) v0)))))) (List.drop (Int.toNat (w64 (v4 + ((fun s => (pfD s : Int)) (List.take (Int.toNat (v0.length : Int) - Int.toNat v4) (List.drop (Int.toNat v4) v0)))))) v0))) == (0 : Int))) then true else (decide ((duP (List.take (Int.toNat (v0.length : Int) - Int.toNat (w64 (v4 + ((fun s => (pfD s : Int)) (List.take (Int.toNat (v0.length : Int) - Int.toNat v4) (List.drop (Int.toNat v4) v0)))))) (List.drop (Int.toNat (w64 (v4 + ((fun s => (pfD s : Int)) (List.take (Int.toNat (v0.length : Int) - Int.toNat v4) (List.drop (Int.toNat v4) v0)))))) v0))) ≤ v2))) then some [⟨.int, (0 : Int)⟩, ⟨.api_Errno, (3 : Int)⟩] else (bif (bif (bif ((pwholeE (List.take (Int.toNat (w64 (v4 + ((fun s => (pfD s : Int)) (List.take (Int.toNat (v0.length : Int) - Int.toNat v4) (List.drop (Int.toNat v4) v0))))) - Int.toNat v4) (List.drop (Int.toNat v4) v0)) 1099511627776) == (0 : Int)) then ((pwholeV (List.take (Int.toNat (w64 (v4 + ((fun s => (pfD s : Int)) (List.take (Int.toNat (v0.length : Int) - Int.toNat v4) (List.drop (Int.toNat v4) v0))))) - Int.toNat v4) (List.drop (Int.toNat v4) v0)) 1099511627776) == (0 : Int)) else false) then (bif (decide ((0 : Int) < v2)) then true else (decide ((w64 ((w64 (v4 + ((fun s => (pfD s : Int)) (List.take (Int.toNat (v0.length : Int) - Int.toNat v4) (List.drop (Int.toNat v4) v0))))) + (duS (List.take (Int.toNat (v0.length : Int) - Int.toNat (w64 (v4 + ((fun s => (pfD s : Int)) (List.take (Int.toNat (v0.length : Int) - Int.toNat v4) (List.drop (Int.toNat v4) v0)))))) (List.drop (Int.toNat (w64 (v4 + ((fun s => (pfD s : Int)) (List.take (Int.toNat (v0.length : Int) - Int.toNat v4) (List.drop (Int.toNat v4) v0)))))) v0))))) < (v0.length : Int)))) else false) then some [⟨.int, (0 : Int)⟩, ⟨.api_Errno, (3 : Int)⟩] else (bif ((!((duL (List.take (Int.toNat (v0.length : Int) - Int.toNat (w64 (v4 + ((fun s => (pfD s : Int)) (List.take (Int.toNat (v0.length : Int) - Int.toNat v4) (List.drop (Int.toNat v4) v0)))))) (List.drop (Int.toNat (w64 (v4 + ((fun s => (pfD s : Int)) (List.take (Int.toNat (v0.length : Int) - Int.toNat v4) (List.drop (Int.toNat v4) v0)))))) v0))) == (0 : Int))) || !(!(bif v3 then true else ((pwholeE (List.take (Int.toNat (w64 (v4 + ((fun s => (pfD s : Int)) (List.take (Int.toNat (v0.length : Int) - Int.toNat v4) (List.drop (Int.toNat v4) v0))))) - Int.toNat v4) (List.drop (Int.toNat v4) v0)) 1099511627776) != (0 : Int))))) then (bif (!(bif (bif v3 then true else ((pwholeE (List.take (Int.toNat (w64 (v4 + ((fun s => (pfD s : Int)) (List.take (Int.toNat (v0.length : Int) - Int.toNat v4) (List.drop (Int.toNat v4) v0))))) - Int.toNat v4) (List.drop (Int.toNat v4) v0)) 1099511627776) != (0 : Int))) then true else (decide ((w64 (Int.tdiv (w64 ((1099511627776 : Int) - v1)) (duL (List.take (Int.toNat (v0.length : Int) - Int.toNat (w64 (v4 + ((fun s => (pfD s : Int)) (List.take (Int.toNat (v0.length : Int) - Int.toNat v4) (List.drop (Int.toNat v4) v0)))))) (List.drop (Int.toNat (w64 (v4 + ((fun s => (pfD s : Int)) (List.take (Int.toNat (v0.length : Int) - Int.toNat v4) (List.drop (Int.toNat v4) v0)))))) v0))))) < (pwholeV (List.take (Int.toNat (w64 (v4 + ((fun s => (pfD s : Int)) (List.take (Int.toNat (v0.length : Int) - Int.toNat v4) (List.drop (Int.toNat v4) v0))))) - Int.toNat v4) (List.drop (Int.toNat v4) v0)) 1099511627776))))) then G 0 (dparse_C0 v0 (w64 (v1 + (w64 ((pwholeV (List.take (Int.toNat (w64 (v4 + ((fun s => (pfD s : Int)) (List.take (Int.toNat (v0.length : Int) - Int.toNat v4) (List.drop (Int.toNat v4) v0))))) - Int.toNat v4) (List.drop (Int.toNat v4) v0)) 1099511627776) * (duL (List.take (Int.toNat (v0.length : Int) - Int.toNat (w64 (v4 + ((fun s => (pfD s : Int)) (List.take (Int.toNat (v0.length : Int) - Int.toNat v4) (List.drop (Int.toNat v4) v0)))))) (List.drop (Int.toNat (w64 (v4 + ((fun s => (pfD s : Int)) (List.take (Int.toNat (v0.length : Int) - Int.toNat v4) (List.drop (Int.toNat v4) v0)))))) v0))))))) (duP (List.take (Int.toNat (v0.length : Int) - Int.toNat (w64 (v4 + ((fun s => (pfD s : Int)) (List.take (Int.toNat (v0.length : Int) - Int.toNat v4) (List.drop (Int.toNat v4) v0)))))) (List.drop (Int.toNat (w64 (v4 + ((fun s => (pfD s : Int)) (List.take (Int.toNat (v0.length : Int) - Int.toNat v4) (List.drop (Int.toNat v4) v0)))))) v0))) (bif (bif v3 then true else ((pwholeE (List.take (Int.toNat (w64 (v4 + ((fun s => (pfD s : Int)) (List.take (Int.toNat (v0.length : Int) - Int.toNat v4) (List.drop (Int.toNat v4) v0))))) - Int.toNat v4) (List.drop (Int.toNat v4) v0)) 1099511627776) != (0 : Int))) then true else (decide ((w64 (Int.tdiv (w64 ((1099511627776 : Int) - v1)) (duL (List.take (Int.toNat (v0.length : Int) - Int.toNat (w64 (v4 + ((fun s => (pfD s : Int)) (List.take (Int.toNat (v0.length : Int) - Int.toNat v4) (List.drop (Int.toNat v4) v0)))))) (List.drop (Int.toNat (w64 (v4 + ((fun s => (pfD s : Int)) (List.take (Int.toNat (v0.length : Int) - Int.toNat v4) (List.drop (Int.toNat v4) v0)))))) v0))))) < (pwholeV (List.take (Int.toNat (w64 (v4 + ((fun s => (pfD s : Int)) (List.take (Int.toNat (v0.length : Int) - Int.toNat v4) (List.drop (Int.toNat v4) v0))))) - Int.toNat v4) (List.drop (Int.toNat v4) v0)) 1099511627776)))) (w64 ((w64 (v4 + ((fun s => (pfD s : Int)) (List.take (Int.toNat (v0.length : Int) - Int.toNat v4) (List.drop (Int.toNat v4) v0))))) + (duS (List.take (Int.toNat (v0.length : Int) - Int.toNat (w64 (v4 + ((fun s => (pfD s : Int)) (List.take (Int.toNat (v0.length : Int) - Int.toNat v4) (List.drop (Int.toNat v4) v0)))))) (List.drop (Int.toNat (w64 (v4 + ((fun s => (pfD s : Int)) (List.take (Int.toNat (v0.length : Int) - Int.toNat v4) (List.drop (Int.toNat v4) v0)))))) v0)))))) else G 0 (dparse_C0 v0 v1 (duP (List.take (Int.toNat (v0.length : Int) - Int.toNat (w64 (v4 + ((fun s => (pfD s : Int)) (List.take (Int.toNat (v0.length : Int) - Int.toNat v4) (List.drop (Int.toNat v4) v0)))))) (List.drop (Int.toNat (w64 (v4 + ((fun s => (pfD s : Int)) (List.take (Int.toNat (v0.length : Int) - Int.toNat v4) (List.drop (Int.toNat v4) v0)))))) v0))) (bif (bif v3 then true else ((pwholeE (List.take (Int.toNat (w64 (v4 + ((fun s => (pfD s : Int)) (List.take (Int.toNat (v0.length : Int) - Int.toNat v4) (List.drop (Int.toNat v4) v0))))) - Int.toNat v4) (List.drop (Int.toNat v4) v0)) 1099511627776) != (0 : Int))) then true else (decide ((w64 (Int.tdiv (w64 ((1099511627776 : Int) - v1)) (duL (List.take (Int.toNat (v0.length : Int) - Int.toNat (w64 (v4 + ((fun s => (pfD s : Int)) (List.take (Int.toNat (v0.length : Int) - Int.toNat v4) (List.drop (Int.toNat v4) v0)))))) (List.drop (Int.toNat (w64 (v4 + ((fun s => (pfD s : Int)) (List.take (Int.toNat (v0.length : Int) - Int.toNat v4) (List.drop (Int.toNat v4) v0)))))) v0))))) < (pwholeV (List.take (Int.toNat (w64 (v4 + ((fun s => (pfD s : Int)) (List.take (Int.toNat (v0.length : Int) - Int.toNat v4) (List.drop (Int.toNat v4) v0))))) - Int.toNat v4) (List.drop (Int.toNat v4) v0)) 1099511627776)))) (w64 ((w64 (v4 + ((fun s => (pfD s : Int)) (List.take (Int.toNat (v0.length : Int) - Int.toNat v4) (List.drop (Int.toNat v4) v0))))) + (duS (List.take (Int.toNat (v0.length : Int) - Int.toNat (w64 (v4 + ((fun s => (pfD s : Int)) (List.take (Int.toNat (v0.length : Int) - Int.toNat v4) (List.drop (Int.toNat v4) v0)))))) (List.drop (Int.toNat (w64 (v4 + ((fun s => (pfD s : Int)) (List.take (Int.toNat (v0.length : Int) - Int.toNat v4) (List.drop (Int.toNat v4) v0)))))) v0))))))) else none))) else none) else none) else none) else none) else none) else (bif v3 then some [⟨.int, (0 : Int)⟩, ⟨.api_Errno, (9 : Int)⟩] else some [⟨.int, v1⟩, ⟨.api_Errno, (0 : Int)⟩])
theorem dparse_l0 (G : Nat → ASt E → Option (List (TV E))) (v0 : List UInt8) (v1 v2 : Int) (v3 : Bool) (v4 : Int) : runL dparse_O dparse_H G Tryz.f79 0 (dparse_C0 v0 v1 v2 v3 v4) = dparse_t0 G v0 v1 v2 v3 v4 := by kernel_rfl
theorem dparse_f : Tryz.prog.funcs[79]? = some Tryz.f79 := by kernel_rfl
theorem dparse_n : (Tryz.f79.name == "runtime.NumGoroutine") = false := by kernel_rfl
theorem dparse_b : Tryz.f79.body.isNone = false := by kernel_rfl
theorem dparse_hO : OracleOk E dparse_O := orac_ok (.cons dcount_ok (.cons dfig_ok (.cons dunit_ok .nil))) .nil .nil .nil
theorem dparse_s0 {res : List (TV E)} {v0 : List UInt8} {v1 v2 : Int} {v3 : Bool} {v4 : Int} (h : dparse_t0 (Gr E Tryz.f79 res) v0 v1 v2 v3 v4 = some res) : Ev E Tryz.f79 res 0 (dparse_C0 v0 v1 v2 v3 v4) := Ev.step dparse_hO mix ((dparse_l0 _ v0 v1 v2 v3 v4).trans h)
theorem dparse_ok_of (h : ∀ (x0 : List UInt8), okL1 x0 = true → dparse_t (Gr E Tryz.f79 [⟨.int, durV x0⟩, ⟨.api_Errno, durE x0⟩]) x0 = some [⟨.int, durV x0⟩, ⟨.api_Errno, durE x0⟩]) : FnOk E dparse_id dparse_W := fn12_ok dparse_hO mix dparse_f dparse_n dparse_b (fun x0 hk => (dparse_e _ x0).trans (h x0 hk))
theorem div_lt {T v : Nat} (u : Nat) (hu : u ≤ 3) (hT : T ≤ 1099511627776) : decide (Int.tdiv (1099511627776 - (T : Int)) (lgN u : Int) < (v : Int)) = decide (1099511627776 < T + v * lgN u) := by
  rw [Int.tdiv_eq_ediv_of_nonneg (by omega)]
  have : u = 0 ∨ u = 1 ∨ u = 2 ∨ u = 3 := by omega
  rcases this with rfl | rfl | rfl | rfl <;> exact decide_eq_decide.2 (by simp only [lgN]; omega)
theorem dparse_0 (s : List UInt8) (hs : s.length ≤ 1000000) : ∀ (f i : Nat) (last tt : Int) (b : Bool) (T : Nat), s.length - i < f → i ≤ s.length → -1 ≤ last → last ≤ 3 → (last < 0 → i < s.length ∨ s = []) → (b = false → tt = (T : Int) ∧ T ≤ 1099511627776) → (b = true → 1099511627776 < T) →
    Ev E Tryz.f79 (dRes ((dSum f last (s.drop i)).map (T + ·))) 0 (dparse_C0 s tt (last + 1) b i) := by
  intro f
  induction f with
  | zero => intro i last tt b T h1; omega
  | succ f ih =>
    intro i last tt b T h1 h2 h3 h4 h5 h6 h7
    by_cases hend : s.drop i = [] ∧ 0 ≤ last
    · obtain ⟨he, hl⟩ := hend
      have hi : s.length ≤ i := by simpa using he
      refine dparse_s0 ?_
      rw [he, dparse_t0, dge hi, eqF (show last + 1 ≠ 0 by omega)]
      simp only [cond_false, dSum, show (([] : List UInt8) == []) = true from rfl, cond_true, dF (show ¬ last < 0 by omega), Option.map_some, Nat.add_zero, dRes, dFin]
      cases b with
      | true => rw [dT (show (1099511627776 : Int) < (T : Int) by have := h7 rfl; omega)]; rfl
      | false =>
        obtain ⟨rfl, h⟩ := h6 rfl
        rw [dF (show ¬ (1099511627776 : Int) < (T : Int) by omega)]; rfl
    · have hcond : (bif decide ((i : Int) < (s.length : Int)) then true else last + 1 == 0) = true := by
        by_cases hi : i < s.length
        · rw [dlt hi]; rfl
        · have : s.drop i = [] := List.drop_eq_nil_of_le (by omega)
          have : last < 0 := by
            rcases Int.lt_or_le last 0 with h | h
            · exact h
            · exact absurd ⟨this, h⟩ hend
          rw [dge (by omega), eqT (show last + 1 = 0 by omega)]; rfl
      have ht : List.take (s.length - i) (List.drop i s) = s.drop i := List.take_of_length_le (by rw [List.length_drop]; exact Nat.le_refl _)
      obtain ⟨x1, x2, x3⟩ := gX_le (s.drop i)
      rw [List.length_drop] at x1
      have hp := pfD_le (s.drop i)
      rw [List.length_drop] at hp
      have e1 : w64 ((i : Int) + (pfD (s.drop i) : Int)) = ((i + pfD (s.drop i) : Nat) : Int) := by rw [w64_id (by omega) (by omega)]; omega
      have e2 : i + pfD (s.drop i) - i = pfD (s.drop i) := by omega
      have e3 : List.take (s.length - (i + pfD (s.drop i))) (List.drop (i + pfD (s.drop i)) s) = (s.drop i).drop (pfD (s.drop i)) := by
        rw [List.drop_drop]; exact List.take_of_length_le (by rw [List.length_drop]; exact Nat.le_refl _)
      have k1 : okL1 (s.drop i) = true := okL1_iff.2 (by rw [List.length_drop]; omega)
      have k2 : pokW ((s.drop i).take (pfD (s.drop i))) 1099511627776 = true := pokW_iff.2 ⟨⟨by rw [List.length_take, List.length_drop]; omega, by decide⟩, by decide⟩
      refine dparse_s0 ?_
      simp only [dparse_t0, hcond, cond_true, d0, dle h2, dle (Nat.le_refl s.length), Bool.and_self, Int.toNat_natCast, ht, k1, e1, dle (show i ≤ i + pfD (s.drop i) by omega), dle (show i + pfD (s.drop i) ≤ s.length by omega), e2, e3, k2, countE_eq _ (show (0 : Int) ≤ 1099511627776 by decide), countV_eq _ (show (0 : Int) ≤ 1099511627776 by decide)]
      change (bif (bif (bif cntE (gH (s.drop i)) 1099511627776 == 3 then true else ((gX (s.drop i)).2 : Int) == 0) then true else decide (duP ((s.drop i).drop (pfD (s.drop i))) ≤ last + 1)) then _ else _) = _
      have hsz : (((gX (s.drop i)).2 : Int) == 0) = ((gX (s.drop i)).2 == 0) := by
        by_cases h : (gX (s.drop i)).2 = 0
        · rw [h]; rfl
        · rw [eqF (by omega)]; symm; simpa using h
      rw [hsz]
      have hE3 : (cntE (gH (s.drop i)) 1099511627776 == 3) = !(wholeB (gH (s.drop i))) := by
        unfold cntE cntP
        cases wholeB (gH (s.drop i)) with
        | false => rfl
        | true =>
          simp only [Bool.not_true, cond_false]
          by_cases h : (1099511627776 : Int) < (valN (gH (s.drop i)) 0 : Int)
          · rw [overP_lt h]; rfl
          · rw [overP_ge h]; rfl
      rw [hE3]
      by_cases hemp : s.drop i = []
      · -- nothing is there, and no group was
        have hl : last < 0 := by
          rcases Int.lt_or_le last 0 with h | h
          · exact h
          · exact absurd ⟨hemp, h⟩ hend
        rw [hemp]
        simp only [dSum, show (([] : List UInt8) == []) = true from rfl, cond_true, dT hl]
        rfl
      cases hbad : gBad last (s.drop i) with
      | true =>
        rw [dSum_none hemp hbad]
        unfold gBad at hbad
        cases h1 : (gX (s.drop i)).2 == 0 with
        | true => cases (!(wholeB (gH (s.drop i)))) <;> rfl
        | false =>
          rw [h1, cond_false] at hbad
          cases hw : wholeB (gH (s.drop i)) with
          | false => rfl
          | true =>
            rw [hw] at hbad
            simp only [Bool.not_true, cond_false] at hbad ⊢
            have hdu : duP ((s.drop i).drop (pfD (s.drop i))) = ((gX (s.drop i)).1 : Int) + 1 := by
              show (bif (gX (s.drop i)).2 == 0 then (0 : Int) else _) = _
              rw [h1]; rfl
            rw [hdu]
            by_cases h3 : ((gX (s.drop i)).1 : Int) ≤ last
            · rw [dT (show ((gX (s.drop i)).1 : Int) + 1 ≤ last + 1 by omega)]; rfl
            · rw [dF h3, cond_false] at hbad
              rw [dF (show ¬ ((gX (s.drop i)).1 : Int) + 1 ≤ last + 1 by omega), cond_false]
              cases hz : gH (s.drop i) == [48] with
              | false => rw [hz] at hbad; cases hbad
              | true =>
                rw [hz, cond_true] at hbad
                have hv : valN (gH (s.drop i)) 0 = 0 := by
                  have := whole_zero hw
                  rw [hz] at this
                  simpa using this
                have c1 : cntE (gH (s.drop i)) 1099511627776 = 0 ∧ cntV (gH (s.drop i)) 1099511627776 = 0 := by
                  unfold cntE cntV cntP
                  rw [hw, hv]
                  exact ⟨rfl, rfl⟩
                have hd2 : decide ((0 : Int) < last + 1) = decide (0 ≤ last) := decide_eq_decide.2 (by omega)
                have hd3 : decide (w64 (((i + pfD (s.drop i) : Nat) : Int) + duS ((s.drop i).drop (pfD (s.drop i)))) < (s.length : Int)) = decide ((0 : Int) < ((gR (s.drop i)).length : Int)) := by
                  have : duS ((s.drop i).drop (pfD (s.drop i))) = ((gX (s.drop i)).2 : Int) := rfl
                  rw [this, w64_id (by omega) (by omega), gR_len, List.length_drop]
                  exact decide_eq_decide.2 (by omega)
                change (bif (bif (bif cntE (gH (s.drop i)) 1099511627776 == 0 then cntV (gH (s.drop i)) 1099511627776 == 0 else false) then _ else false) then _ else _) = _
                rw [c1.1, c1.2, hd2, hd3, hbad]
                rfl
      | false =>
        obtain ⟨g1, g2, g3⟩ := gBad_ok hbad
        rw [dSum_good hemp hbad]
        have h1 : ((gX (s.drop i)).2 == 0) = false := by simpa using g1
        have hdu : duP ((s.drop i).drop (pfD (s.drop i))) = ((gX (s.drop i)).1 : Int) + 1 := by
          show (bif (gX (s.drop i)).2 == 0 then (0 : Int) else _) = _
          rw [h1]; rfl
        have hdl : duL ((s.drop i).drop (pfD (s.drop i))) = (lgN (gX (s.drop i)).1 : Int) := by
          show (bif (gX (s.drop i)).2 == 0 then (0 : Int) else _) = _
          rw [h1]; rfl
        have hds : duS ((s.drop i).drop (pfD (s.drop i))) = ((gX (s.drop i)).2 : Int) := rfl
        have hL := lg_ge (gX (s.drop i)).1
        have hz : (bif gH (s.drop i) == [48] then (bif decide (0 ≤ last) then true else decide ((0 : Int) < ((gR (s.drop i)).length : Int))) else false) = false := by
          unfold gBad at hbad
          rw [h1, g2, dF (show ¬ ((gX (s.drop i)).1 : Int) ≤ last by omega)] at hbad
          exact hbad
        have hd2 : decide ((0 : Int) < last + 1) = decide (0 ≤ last) := decide_eq_decide.2 (by omega)
        have e4 : w64 (((i + pfD (s.drop i) : Nat) : Int) + ((gX (s.drop i)).2 : Int)) = ((i + (pfD (s.drop i) + (gX (s.drop i)).2) : Nat) : Int) := by rw [w64_id (by omega) (by omega)]; omega
        have hd3 : decide (((i + (pfD (s.drop i) + (gX (s.drop i)).2) : Nat) : Int) < (s.length : Int)) = decide ((0 : Int) < ((gR (s.drop i)).length : Int)) := by
          rw [gR_len, List.length_drop]
          exact decide_eq_decide.2 (by omega)
        have hgr : gR (s.drop i) = s.drop (i + (pfD (s.drop i) + (gX (s.drop i)).2)) := by unfold gR; rw [List.drop_drop]
        have next := fun (tt' : Int) (b' : Bool) (q1 : b' = false → tt' = ((T + valN (gH (s.drop i)) 0 * lgN (gX (s.drop i)).1 : Nat) : Int) ∧ T + valN (gH (s.drop i)) 0 * lgN (gX (s.drop i)).1 ≤ 1099511627776) (q2 : b' = true → 1099511627776 < T + valN (gH (s.drop i)) 0 * lgN (gX (s.drop i)).1) =>
          ih (i + (pfD (s.drop i) + (gX (s.drop i)).2)) ((gX (s.drop i)).1 : Int) tt' b' (T + valN (gH (s.drop i)) 0 * lgN (gX (s.drop i)).1) (by omega) (by omega) (by omega) (by omega) (fun h => by omega) q1 q2
        rw [← hgr] at next
        rw [h1, g2, hdu, dF (show ¬ ((gX (s.drop i)).1 : Int) + 1 ≤ last + 1 by omega)]
        simp only [Bool.not_true, cond_false, hdl, hds, e4, hd2, hd3]
        change (bif (bif (bif cntE (gH (s.drop i)) 1099511627776 == 0 then cntV (gH (s.drop i)) 1099511627776 == 0 else false) then (bif decide (0 ≤ last) then true else decide ((0 : Int) < ((gR (s.drop i)).length : Int))) else false) then _ else _) = _
        have hlz : ((lgN (gX (s.drop i)).1 : Int) == 0) = false := eqF (by omega)
        have hwz := whole_zero g2
        by_cases hv : (1099511627776 : Int) < (valN (gH (s.drop i)) 0 : Int)
        · have c1 : cntE (gH (s.drop i)) 1099511627776 = 9 := by unfold cntE cntP; rw [g2, Bool.not_true, cond_false, overP_lt hv]
          have hm : valN (gH (s.drop i)) 0 ≤ valN (gH (s.drop i)) 0 * lgN (gX (s.drop i)).1 := Nat.le_mul_of_pos_right _ hL.1
          have : (bif (bif b then true else cntE ((s.drop i).take (pfD (s.drop i))) 1099511627776 != 0) then true else decide (w64 (Int.tdiv (w64 (1099511627776 - tt)) (lgN (gX (s.drop i)).1 : Int)) < cntV ((s.drop i).take (pfD (s.drop i))) 1099511627776)) = true := by
            have c1 : cntE ((s.drop i).take (pfD (s.drop i))) 1099511627776 = 9 := c1
            rw [c1]; cases b <;> rfl
          rw [c1]
          simp only [this, hlz, Bool.not_true, Bool.not_false, Bool.true_or, show ((9 : Int) == 0) = false from rfl, cond_true, cond_false]
          exact Gr_of (next _ true (fun h => by cases h) (fun _ => by omega))
        · have c1 : cntE (gH (s.drop i)) 1099511627776 = 0 ∧ cntV (gH (s.drop i)) 1099511627776 = (valN (gH (s.drop i)) 0 : Int) := by
            unfold cntE cntV cntP
            rw [g2, Bool.not_true, cond_false, overP_ge hv]
            exact ⟨rfl, rfl⟩
          have c2 : ((valN (gH (s.drop i)) 0 : Int) == 0) = (gH (s.drop i) == [48]) := by
            rw [← hwz]
            by_cases h : valN (gH (s.drop i)) 0 = 0
            · rw [h]; rfl
            · rw [eqF (by omega)]; symm; simpa using h
          have d1 : cntE ((s.drop i).take (pfD (s.drop i))) 1099511627776 = 0 ∧ cntV ((s.drop i).take (pfD (s.drop i))) 1099511627776 = (valN (gH (s.drop i)) 0 : Int) := c1
          rw [c1.1, c1.2, c2]
          simp only [show ((0 : Int) == 0) = true from rfl, cond_true, hz, cond_false, hlz, Bool.not_false, Bool.true_or, d1.1, d1.2, show ((0 : Int) != 0) = false from rfl]
          have hm : valN (gH (s.drop i)) 0 * lgN (gX (s.drop i)).1 ≤ 1099511627776 * 3600000 := Nat.mul_le_mul (by omega) hL.2
          cases b with
          | true =>
            simp only [cond_true, Bool.not_true, cond_false]
            exact Gr_of (next _ true (fun h => by cases h) (fun _ => by have := h7 rfl; omega))
          | false =>
            obtain ⟨rfl, hT⟩ := h6 rfl
            have q1 : w64 (1099511627776 - (T : Int)) = 1099511627776 - (T : Int) := w64_id (by omega) (by omega)
            have q2 : w64 (Int.tdiv (1099511627776 - (T : Int)) (lgN (gX (s.drop i)).1 : Int)) = Int.tdiv (1099511627776 - (T : Int)) (lgN (gX (s.drop i)).1 : Int) := by
              rw [Int.tdiv_eq_ediv_of_nonneg (by omega)]
              have := Int.ediv_le_self (lgN (gX (s.drop i)).1 : Int) (show (0 : Int) ≤ 1099511627776 - (T : Int) by omega)
              have := Int.ediv_nonneg (show (0 : Int) ≤ 1099511627776 - (T : Int) by omega) (show (0 : Int) ≤ (lgN (gX (s.drop i)).1 : Int) by omega)
              exact w64_id (by omega) (by omega)
            have q3 : ((valN (gH (s.drop i)) 0 : Nat) : Int) * (lgN (gX (s.drop i)).1 : Int) = ((valN (gH (s.drop i)) 0 * lgN (gX (s.drop i)).1 : Nat) : Int) := by rw [Int.natCast_mul]
            simp only [cond_false, q1, q2, div_lt _ x2 hT, q3]
            by_cases hov : 1099511627776 < T + valN (gH (s.drop i)) 0 * lgN (gX (s.drop i)).1
            · rw [dT hov]
              exact Gr_of (next _ true (fun h => by cases h) (fun _ => hov))
            · have q4 : w64 ((valN (gH (s.drop i)) 0 * lgN (gX (s.drop i)).1 : Nat) : Int) = ((valN (gH (s.drop i)) 0 * lgN (gX (s.drop i)).1 : Nat) : Int) := w64_id (by omega) (by omega)
              have q5 : w64 ((T : Int) + ((valN (gH (s.drop i)) 0 * lgN (gX (s.drop i)).1 : Nat) : Int)) = (T : Int) + ((valN (gH (s.drop i)) 0 * lgN (gX (s.drop i)).1 : Nat) : Int) := w64_id (by omega) (by omega)
              rw [dF hov, q4, q5]
              exact Gr_of (next _ false (fun _ => ⟨by omega, by omega⟩) (fun h => by cases h))
theorem dparse_ok : FnOk E dparse_id dparse_W := dparse_ok_of fun s hk => by
  have hs := okL1_iff.1 hk
  have := dparse_0 s hs (s.length + 1) 0 (-1) 0 false 0 (Nat.lt_succ_self _) (Nat.zero_le _) (by decide) (by decide) (fun _ => by
    cases s with
    | nil => exact .inr rfl
    | cons c t => exact .inl (by simp)) (fun _ => ⟨rfl, by decide⟩) (fun h => by cases h)
  have e : (dSum (s.length + 1) (-1) (s.drop 0)).map (0 + ·) = dSum (s.length + 1) (-1) s := by
    rw [List.drop_zero]
    cases dSum (s.length + 1) (-1) s <;> simp
  rw [e] at this
  exact Gr_of this
end Go.Proofs.YtgniedpgdjmfpaaGreatDoor.Rf
namespace Go.Proofs.YtgniedpgdjmfpaaGreatDoor.Rf
open Go Go.RowKit Go.Sort Go.Proofs.YtgniedpgdjmfpaaGreatDoor.Mir
def longsV : Arr137 := ⟨3600000, 60000, 1000, 1⟩
noncomputable def r3longs_W : FnW E := fn0 (E := E) .a4_int true longsV
def r3longs_id : FuncId := 175
noncomputable def r3longs_O : Oracle E := orac [] [] [] []
noncomputable def r3longs_H : Hint E := Hint.mk [] [] [] [] []
noncomputable def r3longs_t (_G : Nat → ASt E → Option (List (TV E)))  : Option (List (TV E)) :=
  some [⟨.a4_int, (⟨3600000, 60000, 1000, 1⟩ : Arr137)⟩]
theorem r3longs_e (G : Nat → ASt E → Option (List (TV E)))  : runE r3longs_O r3longs_H G Tryz.f175 [] = r3longs_t G  := by kernel_rfl
theorem r3longs_f : Tryz.prog.funcs[175]? = some Tryz.f175 := by kernel_rfl
theorem r3longs_n : (Tryz.f175.name == "runtime.NumGoroutine") = false := by kernel_rfl
theorem r3longs_b : Tryz.f175.body.isNone = false := by kernel_rfl
theorem r3longs_hO : OracleOk E r3longs_O := orac_ok .nil .nil .nil .nil
theorem r3longs_ok_of (h : r3longs_t (Gr E Tryz.f175 [⟨.a4_int, longsV ⟩])  = some [⟨.a4_int, longsV ⟩]) : FnOk E r3longs_id r3longs_W := fn0_ok r3longs_hO mix r3longs_f r3longs_n r3longs_b (fun _ => (r3longs_e _).trans h)
theorem r3longs_ok : FnOk E r3longs_id r3longs_W := r3longs_ok_of rfl
def namesV : Arr112 := ⟨[104], [109], [115], [109, 115]⟩
noncomputable def r3names_W : FnW E := fn0 (E := E) .a4_str true namesV
def r3names_id : FuncId := 176
noncomputable def r3names_O : Oracle E := orac [] [] [] []
noncomputable def r3names_H : Hint E := Hint.mk [] [] [] [] []
noncomputable def r3names_t (_G : Nat → ASt E → Option (List (TV E)))  : Option (List (TV E)) :=
  some [⟨.a4_str, (⟨[104], [109], [115], [109, 115]⟩ : Arr112)⟩]
theorem r3names_e (G : Nat → ASt E → Option (List (TV E)))  : runE r3names_O r3names_H G Tryz.f176 [] = r3names_t G  := by kernel_rfl
theorem r3names_f : Tryz.prog.funcs[176]? = some Tryz.f176 := by kernel_rfl
theorem r3names_n : (Tryz.f176.name == "runtime.NumGoroutine") = false := by kernel_rfl
theorem r3names_b : Tryz.f176.body.isNone = false := by kernel_rfl
theorem r3names_hO : OracleOk E r3names_O := orac_ok .nil .nil .nil .nil
theorem r3names_ok_of (h : r3names_t (Gr E Tryz.f176 [⟨.a4_str, namesV ⟩])  = some [⟨.a4_str, namesV ⟩]) : FnOk E r3names_id r3names_W := fn0_ok r3names_hO mix r3names_f r3names_n r3names_b (fun _ => (r3names_e _).trans h)
theorem r3names_ok : FnOk E r3names_id r3names_W := r3names_ok_of rfl
def grH (s : List UInt8) : List UInt8 := bif (gX s).2 == 0 then [] else gH s
def grU (s : List UInt8) : Int := ((gX s).1 : Int)
def grR (s : List UInt8) : List UInt8 := bif (gX s).2 == 0 then [] else gR s
def grB (s : List UInt8) : Bool := bif (gX s).2 == 0 then false else wholeB (gH s)
noncomputable def r3group_W : FnW E := fn14 (E := E) .str .str .int .str .bool okL1 grH grU grR grB
def r3group_id : FuncId := 174
noncomputable def r3group_O : Oracle E := orac [(133, rwhole_W)] [] [] []
noncomputable def r3group_H : Hint E := Hint.mk [(0, [0, 6])] [] [] [] []
noncomputable def r3group_C0 (v0 : List UInt8) (v1 : Int) : ASt E := ASt.mk 90 [(0, .d (.str v0)), (6, .d (.int .i64 v1))] [] 0
noncomputable def r3group_t (G : Nat → ASt E → Option (List (TV E))) (x0 : List UInt8) : Option (List (TV E)) :=
  G 0 (r3group_C0 x0 0)
theorem r3group_e (G : Nat → ASt E → Option (List (TV E))) (x0 : List UInt8) : runE r3group_O r3group_H G Tryz.f174 [⟨.str, x0⟩] = r3group_t G x0 := by kernel_rfl
noncomputable def r3group_t0 (G : Nat → ASt E → Option (List (TV E))) (v0 : List UInt8) (v1 : Int) : Option (List (TV E)) :=
  bif ((decide ((0 : Int) ≤ v1) && decide (v1 < (v0.length : Int))) || !(decide (v1 < (v0.length : Int)))) then (bif ((decide ((0 : Int) ≤ v1) && decide (v1 < (v0.length : Int))) || !(bif (decide (v1 < (v0.length : Int))) then (decide ((48 : Int) ≤ (((List.getD v0 (Int.toNat v1) 0).toNat : Nat) : Int))) else false)) then (bif (bif (bif (decide (v1 < (v0.length : Int))) then (decide ((48 : Int) ≤ (((List.getD v0 (Int.toNat v1) 0).toNat : Nat) : Int))) else false) then (decide ((((List.getD v0 (Int.toNat v1) 0).toNat : Nat) : Int) ≤ (57 : Int))) else false) then G 0 (r3group_C0 v0 (w64 (v1 + (1 : Int)))) else (bif (decide ((0 : Int) ≤ (0 : Int)) && decide ((0 : Int) ≤ v1) && decide (v1 ≤ (v0.length : Int))) then (bif (decide ((0 : Int) ≤ v1) && decide (v1 ≤ (v0.length : Int)) && decide ((v0.length : Int) ≤ (v0.length : Int))) then (bif ((decide ((0 : Int) ≤ (0 : Int)) && decide ((0 : Int) < ((List.take (Int.toNat (v0.length : Int) - Int.toNat v1) (List.drop (Int.toNat v1) v0)).length : Int))) || !(decide ((2 : Int) ≤ ((List.take (Int.toNat (v0.length : Int) - Int.toNat v1) (List.drop (Int.toNat v1) v0)).length : Int)))) then (bif ((decide ((0 : Int) ≤ (1 : Int)) && decide ((1 : Int) < ((List.take (Int.toNat (v0.length : Int) - Int.toNat v1) (List.drop (Int.toNat v1) v0)).length : Int))) || !(bif (decide ((2 : Int) ≤ ((List.take (Int.toNat (v0.length : Int) - Int.toNat v1) (List.drop (Int.toNat v1) v0)).length : Int))) then ((((List.getD (List.take (Int.toNat (v0.length : Int) - Int.toNat v1) (List.drop (Int.toNat v1) v0)) (Int.toNat 0) 0).toNat : Nat) : Int) == (109 : Int)) else false)) then (bif (bif (bif (decide ((2 : Int) ≤ ((List.take (Int.toNat (v0.length : Int) - Int.toNat v1) (List.drop (Int.toNat v1) v0)).length : Int))) then ((((List.getD (List.take (Int.toNat (v0.length : Int) - Int.toNat v1) (List.drop (Int.toNat v1) v0)) (Int.toNat 0) 0).toNat : Nat) : Int) == (109 : Int)) else false) then ((((List.getD (List.take (Int.toNat (v0.length : Int) - Int.toNat v1) (List.drop (Int.toNat v1) v0)) (Int.toNat 1) 0).toNat : Nat) : Int) == (115 : Int)) else false) then (bif (decide ((0 : Int) ≤ (2 : Int)) && decide ((2 : Int) ≤ ((List.take (Int.toNat (v0.length : Int) - Int.toNat v1) (List.drop (Int.toNat v1) v0)).length : Int)) && decide (((List.take (Int.toNat (v0.length : Int) - Int.toNat v1) (List.drop (Int.toNat v1) v0)).length : Int) ≤ ((List.take (Int.toNat (v0.length : Int) - Int.toNat v1) (List.drop (Int.toNat v1) v0)).length : Int))) then (bif (okL1 (List.take (Int.toNat v1 - Int.toNat 0) (List.drop (Int.toNat 0) v0))) then some [⟨.str, (List.take (Int.toNat v1 - Int.toNat 0) (List.drop (Int.toNat 0) v0))⟩, ⟨.int, (3 : Int)⟩, ⟨.str, (List.take (Int.toNat ((List.take (Int.toNat (v0.length : Int) - Int.toNat v1) (List.drop (Int.toNat v1) v0)).length : Int) - Int.toNat 2) (List.drop (Int.toNat 2) (List.take (Int.toNat (v0.length : Int) - Int.toNat v1) (List.drop (Int.toNat v1) v0))))⟩, ⟨.bool, (wholeB (List.take (Int.toNat v1 - Int.toNat 0) (List.drop (Int.toNat 0) v0)))⟩] else none) else none) else (bif ((decide ((0 : Int) ≤ (0 : Int)) && decide ((0 : Int) < ((List.take (Int.toNat (v0.length : Int) - Int.toNat v1) (List.drop (Int.toNat v1) v0)).length : Int))) || !(decide ((1 : Int) ≤ ((List.take (Int.toNat (v0.length : Int) - Int.toNat v1) (List.drop (Int.toNat v1) v0)).length : Int)))) then (bif (bif (decide ((1 : Int) ≤ ((List.take (Int.toNat (v0.length : Int) - Int.toNat v1) (List.drop (Int.toNat v1) v0)).length : Int))) then ((((List.getD (List.take (Int.toNat (v0.length : Int) - Int.toNat v1) (List.drop (Int.toNat v1) v0)) (Int.toNat 0) 0).toNat : Nat) : Int) == (104 : Int)) else false) then (bif (decide ((0 : Int) ≤ (1 : Int)) && decide ((1 : Int) ≤ ((List.take (Int.toNat (v0.length : Int) - Int.toNat v1) (List.drop (Int.toNat v1) v0)).length : Int)) && decide (((List.take (Int.toNat (v0.length : Int) - Int.toNat v1) (List.drop (Int.toNat v1) v0)).length : Int) ≤ ((List.take (Int.toNat (v0.length : Int) - Int.toNat v1) (List.drop (Int.toNat v1) v0)).length : Int))) then (bif (okL1 (List.take (Int.toNat v1 - Int.toNat 0) (List.drop (Int.toNat 0) v0))) then some [⟨.str, (List.take (Int.toNat v1 - Int.toNat 0) (List.drop (Int.toNat 0) v0))⟩, ⟨.int, (0 : Int)⟩, ⟨.str, (List.take (Int.toNat ((List.take (Int.toNat (v0.length : Int) - Int.toNat v1) (List.drop (Int.toNat v1) v0)).length : Int) - Int.toNat 1) (List.drop (Int.toNat 1) (List.take (Int.toNat (v0.length : Int) - Int.toNat v1) (List.drop (Int.toNat v1) v0))))⟩, ⟨.bool, (wholeB (List.take (Int.toNat v1 - Int.toNat 0) (List.drop (Int.toNat 0) v0)))⟩] else none) else none) else (bif ((decide ((0 : Int) ≤ (0 : Int)) && decide ((0 : Int) < ((List.take (Int.toNat (v0.length : Int) - Int.toNat v1) (List.drop (Int.toNat v1) v0)).length : Int))) || !(decide ((1 : Int) ≤ ((List.take (Int.toNat (v0.length : Int) - Int.toNat v1) (List.drop (Int.toNat v1) v0)).length : Int)))) then (bif (bif (decide ((1 : Int) ≤ ((List.take (Int.toNat (v0.length : Int) - Int.toNat v1) (List.drop (Int.toNat v1) v0)).length : Int))) then ((((List.getD (List.take (Int.toNat (v0.length : Int) - Int.toNat v1) (List.drop (Int.toNat v1) v0)) (Int.toNat 0) 0).toNat : Nat) : Int) == (109 : Int)) else false) then (bif (decide ((0 : Int) ≤ (1 : Int)) && decide ((1 : Int) ≤ ((List.take (Int.toNat (v0.length : Int) - Int.toNat v1) (List.drop (Int.toNat v1) v0)).length : Int)) && decide (((List.take (Int.toNat (v0.length : Int) - Int.toNat v1) (List.drop (Int.toNat v1) v0)).length : Int) ≤ ((List.take (Int.toNat (v0.length : Int) - Int.toNat v1) (List.drop (Int.toNat v1) v0)).length : Int))) then (bif (okL1 (List.take (Int.toNat v1 - Int.toNat 0) (List.drop (Int.toNat 0) v0))) then some [⟨.str, (List.take (Int.toNat v1 - Int.toNat 0) (List.drop (Int.toNat 0) v0))⟩, ⟨.int, (1 : Int)⟩, ⟨.str, (List.take (Int.toNat ((List.take (Int.toNat (v0.length : Int) - Int.toNat v1) (List.drop (Int.toNat v1) v0)).length : Int) - Int.toNat 1) (List.drop (Int.toNat 1) (List.take (Int.toNat (v0.length : Int) - Int.toNat v1) (List.drop (Int.toNat v1) v0))))⟩, ⟨.bool, (wholeB (List.take (Int.toNat v1 - Int.toNat 0) (List.drop (Int.toNat 0) v0)))⟩] else none) else none) else (bif ((decide ((0 : Int) ≤ (0 : Int)) && decide ((0 : Int) < ((List.take (Int.toNat (v0.length : Int) - Int.toNat v1) (List.drop (Int.toNat v1) v0)).length : Int))) || !(decide ((1 : Int) ≤ ((List.take (Int.toNat (v0.length : Int) - Int.toNat v1) (List.drop (Int.toNat v1) v0)).length : Int)))) then (bif (bif (decide ((1 : Int) ≤ ((List.take (Int.toNat (v0.length : Int) - Int.toNat v1) (List.drop (Int.toNat v1) v0)).length : Int))) then ((((List.getD (List.take (Int.toNat (v0.length : Int) - Int.toNat v1) (List.drop (Int.toNat v1) v0)) (Int.toNat 0) 0).toNat : Nat) : Int) == (115 : Int)) else false) then (bif (decide ((0 : Int) ≤ (1 : Int)) && decide ((1 : Int) ≤ ((List.take (Int.toNat (v0.length : Int) - Int.toNat v1) (List.drop (Int.toNat v1) v0)).length : Int)) && decide (((List.take (Int.toNat (v0.length : Int) - Int.toNat v1) (List.drop (Int.toNat v1) v0)).length : Int) ≤ ((List.take (Int.toNat (v0.length : Int) - Int.toNat v1) (List.drop (Int.toNat v1) v0)).length : Int))) then (bif (okL1 (List.take (Int.toNat v1 - Int.toNat 0) (List.drop (Int.toNat 0) v0))) then some [⟨.str, (List.take (Int.toNat v1 - Int.toNat 0) (List.drop (Int.toNat 0) v0))⟩, ⟨.int, (2 : Int)⟩, ⟨.str, (List.take (Int.toNat ((List.take (Int.toNat (v0.length : Int) - Int.toNat v1) (List.drop (Int.toNat v1) v0)).length : Int) - Int.toNat 1) (List.drop (Int.toNat 1) (List.take (Int.toNat (v0.length : Int) - Int.toNat v1) (List.drop (Int.toNat v1) v0))))⟩, ⟨.bool, (wholeB (List.take (Int.toNat v1 - Int.toNat 0) (List.drop (Int.toNat 0) v0)))⟩] else none) else none) else some [⟨.str, ([] : List UInt8)⟩, ⟨.int, (0 : Int)⟩, ⟨.str, ([] : List UInt8)⟩, ⟨.bool, false⟩]) else none)) else none)) else none)) else none) else none) else none) else none)) else none) else none
theorem r3group_l0 (G : Nat → ASt E → Option (List (TV E))) (v0 : List UInt8) (v1 : Int) : runL r3group_O r3group_H G Tryz.f174 0 (r3group_C0 v0 v1) = r3group_t0 G v0 v1 := by kernel_rfl
theorem r3group_f : Tryz.prog.funcs[174]? = some Tryz.f174 := by kernel_rfl
theorem r3group_n : (Tryz.f174.name == "runtime.NumGoroutine") = false := by kernel_rfl
theorem r3group_b : Tryz.f174.body.isNone = false := by kernel_rfl
theorem r3group_hO : OracleOk E r3group_O := orac_ok (.cons rwhole_ok .nil) .nil .nil .nil
theorem r3group_s0 {res : List (TV E)} {v0 : List UInt8} {v1 : Int} (h : r3group_t0 (Gr E Tryz.f174 res) v0 v1 = some res) : Ev E Tryz.f174 res 0 (r3group_C0 v0 v1) := Ev.step r3group_hO mix ((r3group_l0 _ v0 v1).trans h)
theorem r3group_ok_of (h : ∀ (x0 : List UInt8), okL1 x0 = true → r3group_t (Gr E Tryz.f174 [⟨.str, grH x0⟩, ⟨.int, grU x0⟩, ⟨.str, grR x0⟩, ⟨.bool, grB x0⟩]) x0 = some [⟨.str, grH x0⟩, ⟨.int, grU x0⟩, ⟨.str, grR x0⟩, ⟨.bool, grB x0⟩]) : FnOk E r3group_id r3group_W := fn14_ok r3group_hO mix r3group_f r3group_n r3group_b (fun x0 hk => (r3group_e _ x0).trans (h x0 hk))
theorem r3group_0 (s : List UInt8) (hs : s.length ≤ 1000000) : ∀ (m i : Nat), s.length - i = m → i ≤ s.length → pfD s = i + pfD (s.drop i) →
    Ev E Tryz.f174 [⟨.str, grH s⟩, ⟨.int, grU s⟩, ⟨.str, grR s⟩, ⟨.bool, grB s⟩] 0 (r3group_C0 s i) := by
  have fin : ∀ (i : Nat), i ≤ s.length → pfD s = i → (bif (bif decide ((i : Int) < (s.length : Int)) then decide ((48 : Int) ≤ (((List.getD s i 0).toNat : Nat) : Int)) else false) then decide ((((List.getD s i 0).toNat : Nat) : Int) ≤ 57) else false) = false → Ev E Tryz.f174 [⟨.str, grH s⟩, ⟨.int, grU s⟩, ⟨.str, grR s⟩, ⟨.bool, grB s⟩] 0 (r3group_C0 s i) := by
    intro i h1 h2 h3
    have ht : List.take (s.length - i) (List.drop i s) = s.drop i := List.take_of_length_le (by rw [List.length_drop]; exact Nat.le_refl _)
    have hb : ∀ b : Bool, (decide ((i : Int) < (s.length : Int)) || !(bif decide ((i : Int) < (s.length : Int)) then b else false)) = true := fun b => by cases decide ((i : Int) < (s.length : Int)) <;> simp
    have hb0 : (decide ((i : Int) < (s.length : Int)) || !(decide ((i : Int) < (s.length : Int)))) = true := by cases decide ((i : Int) < (s.length : Int)) <;> rfl
    have hk1 : okL1 (s.take i) = true := okL1_iff.2 (by rw [List.length_take]; omega)
    have hgr : ∀ k, (s.drop i).drop k = s.drop (i + k) := fun k => by rw [List.drop_drop]
    have htk : ∀ k, List.take ((s.drop i).length - k) ((s.drop i).drop k) = s.drop (i + k) := fun k => by
      rw [hgr]; exact List.take_of_length_le (by rw [List.length_drop, List.length_drop]; omega)
    refine r3group_s0 ?_
    simp only [r3group_t0, d0, Bool.true_and, Int.toNat_natCast, hb, hb0, h3, cond_true, cond_false, dle h1, dle (Nat.le_refl s.length), Bool.and_self, ht, show Int.toNat (0 : Int) = 0 from rfl, show Int.toNat (1 : Int) = 1 from rfl, show Int.toNat (2 : Int) = 2 from rfl, Nat.sub_zero, List.drop_zero, show decide ((0 : Int) ≤ (0 : Int)) = true from rfl, show decide ((0 : Int) ≤ (1 : Int)) = true from rfl, show decide ((0 : Int) ≤ (2 : Int)) = true from rfl, hk1, dle (Nat.le_refl (s.drop i).length), htk]
    unfold grH grU grR grB gR gH gX
    rw [h2]
    generalize wholeB (s.take i) = bw
    have hd : s.drop (i + 0) = s.drop i := rfl
    generalize hr : s.drop i = r
    match r with
    | [] => rfl
    | [c] =>
      simp only [List.length_singleton, show decide ((2 : Int) ≤ ((1 : Nat) : Int)) = false from rfl, show decide ((0 : Int) < ((1 : Nat) : Int)) = true from rfl, show decide ((1 : Int) < ((1 : Nat) : Int)) = false from rfl, show decide ((1 : Int) ≤ ((1 : Nat) : Int)) = true from rfl, show List.getD [c] 0 0 = c from rfl, Bool.not_false, Bool.or_true, Bool.true_or, cond_true, cond_false, gU]
      cases ((c.toNat : Int) == 104) <;> cases ((c.toNat : Int) == 109) <;> cases ((c.toNat : Int) == 115) <;> rfl
    | c :: d :: t =>
      have l0 : decide ((0 : Int) < ((c :: d :: t).length : Int)) = true := dT (by simp only [List.length_cons]; omega)
      have l1 : decide ((1 : Int) < ((c :: d :: t).length : Int)) = true := dT (by simp only [List.length_cons]; omega)
      have l2 : decide ((2 : Int) ≤ ((c :: d :: t).length : Int)) = true := dT (by simp only [List.length_cons]; omega)
      have l3 : decide ((1 : Int) ≤ ((c :: d :: t).length : Int)) = true := dT (by simp only [List.length_cons]; omega)
      simp only [l0, l1, l2, l3, show List.getD (c :: d :: t) 0 0 = c from rfl, show List.getD (c :: d :: t) 1 0 = d from rfl, Bool.true_or, cond_true, cond_false, gU]
      cases h104 : ((c.toNat : Int) == 104) with
      | true =>
        have h109 : ((c.toNat : Int) == 109) = false := eqF (by have := eq_of_beq h104; omega)
        rw [h109]; rfl
      | false => cases ((c.toNat : Int) == 109) <;> cases ((d.toNat : Int) == 115) <;> cases ((c.toNat : Int) == 115) <;> rfl
  intro m
  induction m with
  | zero =>
    intro i h1 h2 h4
    rw [List.drop_eq_nil_of_le (show s.length ≤ i by omega)] at h4
    exact fin i h2 h4 (by rw [dge (by omega)]; rfl)
  | succ m ih =>
    intro i h1 h2 h4
    have hi : i < s.length := by omega
    have e1 : w64 ((i : Int) + 1) = ((i + 1 : Nat) : Int) := by rw [w64_id (by omega) (by omega)]; omega
    rw [drop_at hi, pfD] at h4
    cases hd : isD (s.getD i 0) with
    | false =>
      rw [hd, cond_false] at h4
      exact fin i h2 h4 (by rw [dlt hi, cond_true, isD_b, hd])
    | true =>
      rw [hd, cond_true] at h4
      refine r3group_s0 ?_
      simp only [r3group_t0, d0, dlt hi, Bool.and_self, Bool.true_or, cond_true, Int.toNat_natCast, isD_b, hd, e1]
      exact Gr_of (ih (i + 1) (by omega) (by omega) (by omega))
theorem r3group_ok : FnOk E r3group_id r3group_W := r3group_ok_of fun s hk => Gr_of (r3group_0 s (okL1_iff.1 hk) _ 0 rfl (Nat.zero_le _) (by rw [List.drop_zero, Nat.zero_add]))
noncomputable def r3parse_W : FnW E := fn12 (E := E) .str .int .api_Errno okL1 durV durE
def r3parse_id : FuncId := 147
noncomputable def r3parse_O : Oracle E := orac [(134, rvalue_W), (174, r3group_W), (175, r3longs_W)] [] [] []
noncomputable def r3parse_H : Hint E := Hint.mk [(0, [0, 4, 5, 6]), (1, [4, 5, 12, 13, 14])] [] [] [(14, [(8, 4)])] []
noncomputable def r3parse_C0 (v0 : List UInt8) (v1 : Bool) (v2 v3 v4 v5 v6 : Int) : ASt E := ASt.mk 87 [(0, .d (.str v0)), (4, .ptr 0 0), (5, .d (.bool v1)), (6, .d (.int .i64 v2))] [(0, .box [.d (.int .i64 v3), .d (.int .i64 v4), .d (.int .i64 v5), .d (.int .i64 v6)])] 1
noncomputable def r3parse_C1_0 (v0 : Bool) (v1 v2 v3 v4 v5 v6 v7 v8 v9 : Int) : ASt E := ASt.mk 87 [(4, .ptr 0 0), (5, .d (.bool v0)), (12, .ptr 1 0), (13, .d (.int .i64 v1)), (14, .d (.int .i64 (0 : Int)))] [(0, .box [.d (.int .i64 v2), .d (.int .i64 v3), .d (.int .i64 v4), .d (.int .i64 v5)]), (1, .box [.d (.int .i64 v6), .d (.int .i64 v7), .d (.int .i64 v8), .d (.int .i64 v9)])] 2
noncomputable def r3parse_C1_1 (v0 : Bool) (v1 v2 v3 v4 v5 v6 v7 v8 v9 : Int) : ASt E := ASt.mk 87 [(4, .ptr 0 0), (5, .d (.bool v0)), (12, .ptr 1 0), (13, .d (.int .i64 v1)), (14, .d (.int .i64 (1 : Int)))] [(0, .box [.d (.int .i64 v2), .d (.int .i64 v3), .d (.int .i64 v4), .d (.int .i64 v5)]), (1, .box [.d (.int .i64 v6), .d (.int .i64 v7), .d (.int .i64 v8), .d (.int .i64 v9)])] 2
noncomputable def r3parse_C1_2 (v0 : Bool) (v1 v2 v3 v4 v5 v6 v7 v8 v9 : Int) : ASt E := ASt.mk 87 [(4, .ptr 0 0), (5, .d (.bool v0)), (12, .ptr 1 0), (13, .d (.int .i64 v1)), (14, .d (.int .i64 (2 : Int)))] [(0, .box [.d (.int .i64 v2), .d (.int .i64 v3), .d (.int .i64 v4), .d (.int .i64 v5)]), (1, .box [.d (.int .i64 v6), .d (.int .i64 v7), .d (.int .i64 v8), .d (.int .i64 v9)])] 2
noncomputable def r3parse_C1_3 (v0 : Bool) (v1 v2 v3 v4 v5 v6 v7 v8 v9 : Int) : ASt E := ASt.mk 87 [(4, .ptr 0 0), (5, .d (.bool v0)), (12, .ptr 1 0), (13, .d (.int .i64 v1)), (14, .d (.int .i64 (3 : Int)))] [(0, .box [.d (.int .i64 v2), .d (.int .i64 v3), .d (.int .i64 v4), .d (.int .i64 v5)]), (1, .box [.d (.int .i64 v6), .d (.int .i64 v7), .d (.int .i64 v8), .d (.int .i64 v9)])] 2
noncomputable def r3parse_C1_4 (v0 : Bool) (v1 v2 v3 v4 v5 v6 v7 v8 v9 : Int) : ASt E := ASt.mk 87 [(4, .ptr 0 0), (5, .d (.bool v0)), (12, .ptr 1 0), (13, .d (.int .i64 v1)), (14, .d (.int .i64 (4 : Int)))] [(0, .box [.d (.int .i64 v2), .d (.int .i64 v3), .d (.int .i64 v4), .d (.int .i64 v5)]), (1, .box [.d (.int .i64 v6), .d (.int .i64 v7), .d (.int .i64 v8), .d (.int .i64 v9)])] 2
noncomputable def r3parse_t (G : Nat → ASt E → Option (List (TV E))) (x0 : List UInt8) : Option (List (TV E)) :=
  bif ((x0.length : Int) == (0 : Int)) then some [⟨.int, (0 : Int)⟩, ⟨.api_Errno, (3 : Int)⟩] else G 0 (r3parse_C0 x0 false (-1) 0 0 0 0)
theorem r3parse_e (G : Nat → ASt E → Option (List (TV E))) (x0 : List UInt8) : runE r3parse_O r3parse_H G Tryz.f147 [⟨.str, x0⟩] = r3parse_t G x0 := by kernel_rfl
noncomputable def r3parse_t0 (G : Nat → ASt E → Option (List (TV E))) (v0 : List UInt8) (v1 : Bool) (v2 v3 v4 v5 v6 : Int) : Option (List (TV E)) :=
  bif (decide ((0 : Int) < (v0.length : Int))) then (bif (okL1 v0) then (bif (bif (bif (!(grB v0)) then true else (decide ((grU v0) ≤ v2))) then true else (bif ((grH v0) == ([48] : List UInt8)) then (bif (decide ((0 : Int) ≤ v2)) then true else (decide ((0 : Int) < ((grR v0).length : Int)))) else false)) then some [⟨.int, (0 : Int)⟩, ⟨.api_Errno, (3 : Int)⟩] else (bif (okD (grH v0)) then (bif (decide ((1099511627776 : Int) < (rvalueV (grH v0)))) then (bif (grU v0) == (0 : Int) then G 0 (r3parse_C0 (grR v0) true 0 0 v4 v5 v6) else (bif (grU v0) == (1 : Int) then G 0 (r3parse_C0 (grR v0) true 1 v3 0 v5 v6) else (bif (grU v0) == (2 : Int) then G 0 (r3parse_C0 (grR v0) true 2 v3 v4 0 v6) else (bif (grU v0) == (3 : Int) then G 0 (r3parse_C0 (grR v0) true 3 v3 v4 v5 0) else none)))) else (bif (grU v0) == (0 : Int) then G 0 (r3parse_C0 (grR v0) v1 0 (rvalueV (grH v0)) v4 v5 v6) else (bif (grU v0) == (1 : Int) then G 0 (r3parse_C0 (grR v0) v1 1 v3 (rvalueV (grH v0)) v5 v6) else (bif (grU v0) == (2 : Int) then G 0 (r3parse_C0 (grR v0) v1 2 v3 v4 (rvalueV (grH v0)) v6) else (bif (grU v0) == (3 : Int) then G 0 (r3parse_C0 (grR v0) v1 3 v3 v4 v5 (rvalueV (grH v0))) else none))))) else none)) else none) else G 1 (r3parse_C1_0 v1 0 v3 v4 v5 v6 longsV.e0 longsV.e1 longsV.e2 longsV.e3)
theorem r3parse_l0 (G : Nat → ASt E → Option (List (TV E))) (v0 : List UInt8) (v1 : Bool) (v2 v3 v4 v5 v6 : Int) : runL r3parse_O r3parse_H G Tryz.f147 0 (r3parse_C0 v0 v1 v2 v3 v4 v5 v6) = r3parse_t0 G v0 v1 v2 v3 v4 v5 v6 := by kernel_rfl
noncomputable def r3parse_t1_0 (G : Nat → ASt E → Option (List (TV E))) (v0 : Bool) (v1 v2 v3 v4 v5 v6 v7 v8 v9 : Int) : Option (List (TV E)) :=
  bif (!(v6 == (0 : Int))) then (bif (decide ((w64 (Int.tdiv (1099511627776 : Int) v6)) < v2)) then (bif (!true) then G 1 (r3parse_C1_1 true (w64 (v1 + (w64 (v2 * v6)))) v2 v3 v4 v5 v6 v7 v8 v9) else G 1 (r3parse_C1_1 true v1 v2 v3 v4 v5 v6 v7 v8 v9)) else (bif (!v0) then G 1 (r3parse_C1_1 v0 (w64 (v1 + (w64 (v2 * v6)))) v2 v3 v4 v5 v6 v7 v8 v9) else G 1 (r3parse_C1_1 v0 v1 v2 v3 v4 v5 v6 v7 v8 v9))) else none
theorem r3parse_l1_0 (G : Nat → ASt E → Option (List (TV E))) (v0 : Bool) (v1 v2 v3 v4 v5 v6 v7 v8 v9 : Int) : runL r3parse_O r3parse_H G Tryz.f147 1 (r3parse_C1_0 v0 v1 v2 v3 v4 v5 v6 v7 v8 v9) = r3parse_t1_0 G v0 v1 v2 v3 v4 v5 v6 v7 v8 v9 := by kernel_rfl
noncomputable def r3parse_t1_1 (G : Nat → ASt E → Option (List (TV E))) (v0 : Bool) (v1 v2 v3 v4 v5 v6 v7 v8 v9 : Int) : Option (List (TV E)) :=
  bif (!(v7 == (0 : Int))) then (bif (decide ((w64 (Int.tdiv (1099511627776 : Int) v7)) < v3)) then (bif (!true) then G 1 (r3parse_C1_2 true (w64 (v1 + (w64 (v3 * v7)))) v2 v3 v4 v5 v6 v7 v8 v9) else G 1 (r3parse_C1_2 true v1 v2 v3 v4 v5 v6 v7 v8 v9)) else (bif (!v0) then G 1 (r3parse_C1_2 v0 (w64 (v1 + (w64 (v3 * v7)))) v2 v3 v4 v5 v6 v7 v8 v9) else G 1 (r3parse_C1_2 v0 v1 v2 v3 v4 v5 v6 v7 v8 v9))) else none
theorem r3parse_l1_1 (G : Nat → ASt E → Option (List (TV E))) (v0 : Bool) (v1 v2 v3 v4 v5 v6 v7 v8 v9 : Int) : runL r3parse_O r3parse_H G Tryz.f147 1 (r3parse_C1_1 v0 v1 v2 v3 v4 v5 v6 v7 v8 v9) = r3parse_t1_1 G v0 v1 v2 v3 v4 v5 v6 v7 v8 v9 := by kernel_rfl
noncomputable def r3parse_t1_2 (G : Nat → ASt E → Option (List (TV E))) (v0 : Bool) (v1 v2 v3 v4 v5 v6 v7 v8 v9 : Int) : Option (List (TV E)) :=
  bif (!(v8 == (0 : Int))) then (bif (decide ((w64 (Int.tdiv (1099511627776 : Int) v8)) < v4)) then (bif (!true) then G 1 (r3parse_C1_3 true (w64 (v1 + (w64 (v4 * v8)))) v2 v3 v4 v5 v6 v7 v8 v9) else G 1 (r3parse_C1_3 true v1 v2 v3 v4 v5 v6 v7 v8 v9)) else (bif (!v0) then G 1 (r3parse_C1_3 v0 (w64 (v1 + (w64 (v4 * v8)))) v2 v3 v4 v5 v6 v7 v8 v9) else G 1 (r3parse_C1_3 v0 v1 v2 v3 v4 v5 v6 v7 v8 v9))) else none
theorem r3parse_l1_2 (G : Nat → ASt E → Option (List (TV E))) (v0 : Bool) (v1 v2 v3 v4 v5 v6 v7 v8 v9 : Int) : runL r3parse_O r3parse_H G Tryz.f147 1 (r3parse_C1_2 v0 v1 v2 v3 v4 v5 v6 v7 v8 v9) = r3parse_t1_2 G v0 v1 v2 v3 v4 v5 v6 v7 v8 v9 := by kernel_rfl
noncomputable def r3parse_t1_3 (G : Nat → ASt E → Option (List (TV E))) (v0 : Bool) (v1 v2 v3 v4 v5 v6 v7 v8 v9 : Int) : Option (List (TV E)) :=
  bif (!(v9 == (0 : Int))) then (bif (decide ((w64 (Int.tdiv (1099511627776 : Int) v9)) < v5)) then (bif (!true) then G 1 (r3parse_C1_4 true (w64 (v1 + (w64 (v5 * v9)))) v2 v3 v4 v5 v6 v7 v8 v9) else G 1 (r3parse_C1_4 true v1 v2 v3 v4 v5 v6 v7 v8 v9)) else (bif (!v0) then G 1 (r3parse_C1_4 v0 (w64 (v1 + (w64 (v5 * v9)))) v2 v3 v4 v5 v6 v7 v8 v9) else G 1 (r3parse_C1_4 v0 v1 v2 v3 v4 v5 v6 v7 v8 v9))) else none
theorem r3parse_l1_3 (G : Nat → ASt E → Option (List (TV E))) (v0 : Bool) (v1 v2 v3 v4 v5 v6 v7 v8 v9 : Int) : runL r3parse_O r3parse_H G Tryz.f147 1 (r3parse_C1_3 v0 v1 v2 v3 v4 v5 v6 v7 v8 v9) = r3parse_t1_3 G v0 v1 v2 v3 v4 v5 v6 v7 v8 v9 := by kernel_rfl
noncomputable def r3parse_t1_4 (_G : Nat → ASt E → Option (List (TV E))) (v0 : Bool) (v1 _v2 _v3 _v4 _v5 _v6 _v7 _v8 _v9 : Int) : Option (List (TV E)) :=
  bif (bif v0 then true else (decide ((1099511627776 : Int) < v1))) then some [⟨.int, (0 : Int)⟩, ⟨.api_Errno, (9 : Int)⟩] else some [⟨.int, v1⟩, ⟨.api_Errno, (0 : Int)⟩]
theorem r3parse_l1_4 (G : Nat → ASt E → Option (List (TV E))) (v0 : Bool) (v1 v2 v3 v4 v5 v6 v7 v8 v9 : Int) : runL r3parse_O r3parse_H G Tryz.f147 1 (r3parse_C1_4 v0 v1 v2 v3 v4 v5 v6 v7 v8 v9) = r3parse_t1_4 G v0 v1 v2 v3 v4 v5 v6 v7 v8 v9 := by kernel_rfl
theorem r3parse_f : Tryz.prog.funcs[147]? = some Tryz.f147 := by kernel_rfl
theorem r3parse_n : (Tryz.f147.name == "runtime.NumGoroutine") = false := by kernel_rfl
theorem r3parse_b : Tryz.f147.body.isNone = false := by kernel_rfl
theorem r3parse_hO : OracleOk E r3parse_O := orac_ok (.cons rvalue_ok (.cons r3group_ok (.cons r3longs_ok .nil))) .nil .nil .nil
theorem r3parse_s0 {res : List (TV E)} {v0 : List UInt8} {v1 : Bool} {v2 v3 v4 v5 v6 : Int} (h : r3parse_t0 (Gr E Tryz.f147 res) v0 v1 v2 v3 v4 v5 v6 = some res) : Ev E Tryz.f147 res 0 (r3parse_C0 v0 v1 v2 v3 v4 v5 v6) := Ev.step r3parse_hO mix ((r3parse_l0 _ v0 v1 v2 v3 v4 v5 v6).trans h)
theorem r3parse_s1_0 {res : List (TV E)} {v0 : Bool} {v1 v2 v3 v4 v5 v6 v7 v8 v9 : Int} (h : r3parse_t1_0 (Gr E Tryz.f147 res) v0 v1 v2 v3 v4 v5 v6 v7 v8 v9 = some res) : Ev E Tryz.f147 res 1 (r3parse_C1_0 v0 v1 v2 v3 v4 v5 v6 v7 v8 v9) := Ev.step r3parse_hO mix ((r3parse_l1_0 _ v0 v1 v2 v3 v4 v5 v6 v7 v8 v9).trans h)
theorem r3parse_s1_1 {res : List (TV E)} {v0 : Bool} {v1 v2 v3 v4 v5 v6 v7 v8 v9 : Int} (h : r3parse_t1_1 (Gr E Tryz.f147 res) v0 v1 v2 v3 v4 v5 v6 v7 v8 v9 = some res) : Ev E Tryz.f147 res 1 (r3parse_C1_1 v0 v1 v2 v3 v4 v5 v6 v7 v8 v9) := Ev.step r3parse_hO mix ((r3parse_l1_1 _ v0 v1 v2 v3 v4 v5 v6 v7 v8 v9).trans h)
theorem r3parse_s1_2 {res : List (TV E)} {v0 : Bool} {v1 v2 v3 v4 v5 v6 v7 v8 v9 : Int} (h : r3parse_t1_2 (Gr E Tryz.f147 res) v0 v1 v2 v3 v4 v5 v6 v7 v8 v9 = some res) : Ev E Tryz.f147 res 1 (r3parse_C1_2 v0 v1 v2 v3 v4 v5 v6 v7 v8 v9) := Ev.step r3parse_hO mix ((r3parse_l1_2 _ v0 v1 v2 v3 v4 v5 v6 v7 v8 v9).trans h)
theorem r3parse_s1_3 {res : List (TV E)} {v0 : Bool} {v1 v2 v3 v4 v5 v6 v7 v8 v9 : Int} (h : r3parse_t1_3 (Gr E Tryz.f147 res) v0 v1 v2 v3 v4 v5 v6 v7 v8 v9 = some res) : Ev E Tryz.f147 res 1 (r3parse_C1_3 v0 v1 v2 v3 v4 v5 v6 v7 v8 v9) := Ev.step r3parse_hO mix ((r3parse_l1_3 _ v0 v1 v2 v3 v4 v5 v6 v7 v8 v9).trans h)
theorem r3parse_s1_4 {res : List (TV E)} {v0 : Bool} {v1 v2 v3 v4 v5 v6 v7 v8 v9 : Int} (h : r3parse_t1_4 (Gr E Tryz.f147 res) v0 v1 v2 v3 v4 v5 v6 v7 v8 v9 = some res) : Ev E Tryz.f147 res 1 (r3parse_C1_4 v0 v1 v2 v3 v4 v5 v6 v7 v8 v9) := Ev.step r3parse_hO mix ((r3parse_l1_4 _ v0 v1 v2 v3 v4 v5 v6 v7 v8 v9).trans h)
theorem r3parse_ok_of (h : ∀ (x0 : List UInt8), okL1 x0 = true → r3parse_t (Gr E Tryz.f147 [⟨.int, durV x0⟩, ⟨.api_Errno, durE x0⟩]) x0 = some [⟨.int, durV x0⟩, ⟨.api_Errno, durE x0⟩]) : FnOk E r3parse_id r3parse_W := fn12_ok r3parse_hO mix r3parse_f r3parse_n r3parse_b (fun x0 hk => (r3parse_e _ x0).trans (h x0 hk))
abbrev r3G (o : Option Nat) (j : Nat) (S : ASt E) : Prop := Ev E Tryz.f147 (dRes o) j S
theorem r3_over (T : Nat) (hT : 1099511627776 < T) (tt a0 a1 a2 a3 : Int) : r3G (some T) 1 (r3parse_C1_0 true tt a0 a1 a2 a3 3600000 60000 1000 1) := by
  have e : dRes (some T) = [⟨.int, (0 : Int)⟩, ⟨.api_Errno, (9 : Int)⟩] := by
    simp only [dRes, dFin]
    rw [dT (show (1099511627776 : Int) < (T : Int) by omega)]; rfl
  unfold r3G
  rw [e]
  have s4 : ∀ tt, Ev E Tryz.f147 [⟨.int, (0 : Int)⟩, ⟨.api_Errno, (9 : Int)⟩] 1 (r3parse_C1_4 true tt a0 a1 a2 a3 3600000 60000 1000 1) := fun tt => r3parse_s1_4 (by simp only [r3parse_t1_4, cond_true])
  have s3 : ∀ tt, Ev E Tryz.f147 [⟨.int, (0 : Int)⟩, ⟨.api_Errno, (9 : Int)⟩] 1 (r3parse_C1_3 true tt a0 a1 a2 a3 3600000 60000 1000 1) := fun tt => r3parse_s1_3 (by
    simp only [r3parse_t1_3, show (!((1 : Int) == 0)) = true from rfl, cond_true, Bool.not_true, cond_false]
    cases decide (w64 (Int.tdiv 1099511627776 1) < a3) <;> exact Gr_of (s4 _))
  have s2 : ∀ tt, Ev E Tryz.f147 [⟨.int, (0 : Int)⟩, ⟨.api_Errno, (9 : Int)⟩] 1 (r3parse_C1_2 true tt a0 a1 a2 a3 3600000 60000 1000 1) := fun tt => r3parse_s1_2 (by
    simp only [r3parse_t1_2, show (!((1000 : Int) == 0)) = true from rfl, cond_true, Bool.not_true, cond_false]
    cases decide (w64 (Int.tdiv 1099511627776 1000) < a2) <;> exact Gr_of (s3 _))
  have s1 : ∀ tt, Ev E Tryz.f147 [⟨.int, (0 : Int)⟩, ⟨.api_Errno, (9 : Int)⟩] 1 (r3parse_C1_1 true tt a0 a1 a2 a3 3600000 60000 1000 1) := fun tt => r3parse_s1_1 (by
    simp only [r3parse_t1_1, show (!((60000 : Int) == 0)) = true from rfl, cond_true, Bool.not_true, cond_false]
    cases decide (w64 (Int.tdiv 1099511627776 60000) < a1) <;> exact Gr_of (s2 _))
  exact r3parse_s1_0 (by
    simp only [r3parse_t1_0, show (!((3600000 : Int) == 0)) = true from rfl, cond_true, Bool.not_true, cond_false]
    cases decide (w64 (Int.tdiv 1099511627776 3600000) < a0) <;> exact Gr_of (s1 _))
theorem dRes_over {T : Nat} (hT : 1099511627776 < T) : dRes (some T) = [⟨.int, (0 : Int)⟩, ⟨.api_Errno, (9 : Int)⟩] := by
  simp only [dRes, dFin]
  rw [dT (show (1099511627776 : Int) < (T : Int) by omega)]; rfl
theorem dRes_in {T : Nat} (hT : ¬ 1099511627776 < T) : dRes (some T) = [⟨.int, (T : Int)⟩, ⟨.api_Errno, (0 : Int)⟩] := by
  simp only [dRes, dFin]
  rw [dF (show ¬ (1099511627776 : Int) < (T : Int) by omega)]; rfl
theorem r3_fin (T : Nat) (b : Bool) (a0 a1 a2 a3 : Int) (h0 : 0 ≤ a0 ∧ a0 ≤ 1099511627776) (h1 : 0 ≤ a1 ∧ a1 ≤ 1099511627776) (h2 : 0 ≤ a2 ∧ a2 ≤ 1099511627776) (h3 : 0 ≤ a3 ∧ a3 ≤ 1099511627776)
    (hb : b = true → 1099511627776 < T) (hT : b = false → a0 * 3600000 + a1 * 60000 + a2 * 1000 + a3 = (T : Int)) : r3G (some T) 1 (r3parse_C1_0 b 0 a0 a1 a2 a3 3600000 60000 1000 1) := by
  cases b with
  | true => exact r3_over T (hb rfl) _ _ _ _ _
  | false =>
    have hT := hT rfl
    have t4 : ∀ (tt : Int) (o : Bool), (o = true → 1099511627776 < T) → (o = false → tt = (T : Int)) → r3G (some T) 1 (r3parse_C1_4 o tt a0 a1 a2 a3 3600000 60000 1000 1) := fun tt o q1 q2 => r3parse_s1_4 (by
      cases o with
      | true => rw [dRes_over (q1 rfl)]; rfl
      | false =>
        have q2 := q2 rfl
        subst q2
        by_cases h : 1099511627776 < T
        · rw [dRes_over h, r3parse_t1_4, dT (show (1099511627776 : Int) < (T : Int) by omega)]; rfl
        · rw [dRes_in h, r3parse_t1_4, dF (show ¬ (1099511627776 : Int) < (T : Int) by omega)]; rfl)
    have t3 : ∀ (tt : Int) (o : Bool), (o = true → 1099511627776 < T) → (o = false → tt + a3 = (T : Int) ∧ 0 ≤ tt ∧ tt ≤ 4398046511104) → r3G (some T) 1 (r3parse_C1_3 o tt a0 a1 a2 a3 3600000 60000 1000 1) := fun tt o q1 q2 => r3parse_s1_3 (by
      simp only [r3parse_t1_3, show (!((1 : Int) == 0)) = true from rfl, show w64 (Int.tdiv 1099511627776 1) = 1099511627776 from rfl, cond_true, Bool.not_true, cond_false]
      rw [dF (show ¬ (1099511627776 : Int) < a3 by omega), cond_false]
      cases o with
      | true => exact Gr_of (t4 _ true q1 (fun h => by cases h))
      | false =>
        obtain ⟨q3, q4, q5⟩ := q2 rfl
        rw [Int.mul_one, w64_id (show -9223372036854775808 ≤ a3 by omega) (by omega), w64_id (by omega) (by omega)]
        exact Gr_of (t4 _ false q1 (fun _ => by omega)))
    have t2 : ∀ (tt : Int) (o : Bool), (o = true → 1099511627776 < T) → (o = false → tt + a2 * 1000 + a3 = (T : Int) ∧ 0 ≤ tt ∧ tt ≤ 3298534883328) → r3G (some T) 1 (r3parse_C1_2 o tt a0 a1 a2 a3 3600000 60000 1000 1) := fun tt o q1 q2 => r3parse_s1_2 (by
      simp only [r3parse_t1_2, show (!((1000 : Int) == 0)) = true from rfl, show w64 (Int.tdiv 1099511627776 1000) = 1099511627 from rfl, cond_true, Bool.not_true, cond_false]
      cases o with
      | true => cases decide ((1099511627 : Int) < a2) <;> exact Gr_of (t3 _ true q1 (fun h => by cases h))
      | false =>
        obtain ⟨q3, q4, q5⟩ := q2 rfl
        by_cases h : (1099511627 : Int) < a2
        · rw [dT h]
          exact Gr_of (t3 _ true (fun _ => by omega) (fun h => by cases h))
        · rw [dF h, w64_id (show -9223372036854775808 ≤ a2 * 1000 by omega) (by omega), w64_id (by omega) (by omega)]
          exact Gr_of (t3 _ false q1 (fun _ => by omega)))
    have t1 : ∀ (tt : Int) (o : Bool), (o = true → 1099511627776 < T) → (o = false → tt + a1 * 60000 + a2 * 1000 + a3 = (T : Int) ∧ 0 ≤ tt ∧ tt ≤ 1099511627776) → r3G (some T) 1 (r3parse_C1_1 o tt a0 a1 a2 a3 3600000 60000 1000 1) := fun tt o q1 q2 => r3parse_s1_1 (by
      simp only [r3parse_t1_1, show (!((60000 : Int) == 0)) = true from rfl, show w64 (Int.tdiv 1099511627776 60000) = 18325193 from rfl, cond_true, Bool.not_true, cond_false]
      cases o with
      | true => cases decide ((18325193 : Int) < a1) <;> exact Gr_of (t2 _ true q1 (fun h => by cases h))
      | false =>
        obtain ⟨q3, q4, q5⟩ := q2 rfl
        by_cases h : (18325193 : Int) < a1
        · rw [dT h]
          exact Gr_of (t2 _ true (fun _ => by omega) (fun h => by cases h))
        · rw [dF h, w64_id (show -9223372036854775808 ≤ a1 * 60000 by omega) (by omega), w64_id (by omega) (by omega)]
          exact Gr_of (t2 _ false q1 (fun _ => by omega)))
    exact r3parse_s1_0 (by
      simp only [r3parse_t1_0, show (!((3600000 : Int) == 0)) = true from rfl, show w64 (Int.tdiv 1099511627776 3600000) = 305419 from rfl, cond_true, Bool.not_false, cond_false]
      by_cases h : (305419 : Int) < a0
      · rw [dT h]
        exact Gr_of (t1 _ true (fun _ => by omega) (fun h => by cases h))
      · rw [dF h, w64_id (show -9223372036854775808 ≤ a0 * 3600000 by omega) (by omega), w64_id (by omega) (by omega)]
        exact Gr_of (t1 _ false (fun h => by cases h) (fun _ => by omega)))
theorem r3parse_0 : ∀ (f : Nat) (s : List UInt8), s.length < f → s.length ≤ 1000000 → ∀ (last : Int) (b : Bool) (a0 a1 a2 a3 : Int) (T : Nat), -1 ≤ last → last ≤ 3 → (0 ≤ last ∨ s ≠ []) →
    (0 ≤ a0 ∧ a0 ≤ 1099511627776) → (0 ≤ a1 ∧ a1 ≤ 1099511627776) → (0 ≤ a2 ∧ a2 ≤ 1099511627776) → (0 ≤ a3 ∧ a3 ≤ 1099511627776) → ((last < 0 → a0 = 0) ∧ (last < 1 → a1 = 0) ∧ (last < 2 → a2 = 0) ∧ (last < 3 → a3 = 0)) →
    (b = true → 1099511627776 < T) → (b = false → a0 * 3600000 + a1 * 60000 + a2 * 1000 + a3 = (T : Int)) → r3G ((dSum f last s).map (T + ·)) 0 (r3parse_C0 s b last a0 a1 a2 a3) := by
  intro f
  induction f with
  | zero => intro s h; omega
  | succ f ih =>
    intro s hf hs last b a0 a1 a2 a3 T g1 g2 g3 h0 h1 h2 h3 hz hb hT
    refine r3parse_s0 ?_
    by_cases he : s = []
    · subst he
      have hl : 0 ≤ last := g3.resolve_right (fun h => h rfl)
      have e : (dSum (f + 1) last []).map (T + ·) = some T := by
        rw [dSum, show (([] : List UInt8) == []) = true from rfl, cond_true, dF (by omega)]; rfl
      rw [e]
      exact Gr_of (r3_fin T b a0 a1 a2 a3 h0 h1 h2 h3 hb hT)
    · have hpos : 0 < s.length := List.length_pos_iff.2 he
      have ok1 : okL1 s = true := okL1_iff.2 hs
      rw [r3parse_t0, dT (show (0 : Int) < (s.length : Int) by omega), cond_true, ok1, cond_true]
      have hbad : (bif (bif (!(grB s)) then true else decide (grU s ≤ last)) then true else (bif grH s == [48] then (bif decide (0 ≤ last) then true else decide ((0 : Int) < ((grR s).length : Int))) else false)) = gBad last s := by
        unfold gBad grB grU grH grR
        cases (gX s).2 == 0 <;> rfl
      rw [hbad]
      cases hq : gBad last s with
      | true => rw [dSum_none he hq]; rfl
      | false =>
        obtain ⟨q1, q2, q3⟩ := gBad_ok hq
        have q1' : ((gX s).2 == 0) = false := by simpa using q1
        obtain ⟨x1, x2, x3⟩ := gX_le s
        have eH : grH s = gH s := by unfold grH; rw [q1']; rfl
        have eR : grR s = gR s := by unfold grR; rw [q1']; rfl
        have hD : okD (gH s) = true := okD_iff.2 ⟨Nat.le_trans (gH_len s) hs, by
          unfold wholeB at q2
          rw [Bool.and_eq_true] at q2
          exact q2.2⟩
        have hRl : (gR s).length < f := by rw [gR_len]; omega
        have hRs : (gR s).length ≤ 1000000 := by rw [gR_len]; omega
        rw [dSum_good he hq, eH, eR, hD]
        have hU : (gX s).1 = 0 ∨ (gX s).1 = 1 ∨ (gX s).1 = 2 ∨ (gX s).1 = 3 := by omega
        have hv : decide ((1099511627776 : Int) < rvalueV (gH s)) = decide ((1099511627776 : Int) < (valN (gH s) 0 : Int)) := by
          unfold rvalueV
          by_cases h7 : valN (gH s) 0 < 72057594037927936
          · rw [satV_lt h7]
          · rw [satV_ge h7]; exact decide_eq_decide.2 (by omega)
        have next := fun (b' : Bool) (c0 c1 c2 c3 : Int) => ih (gR s) hRl hRs ((gX s).1 : Int) b' c0 c1 c2 c3 (T + valN (gH s) 0 * lgN (gX s).1) (by omega) (by omega) (.inl (by omega))
        simp only [cond_false, cond_true, hv]
        unfold grU
        by_cases hbig : (1099511627776 : Int) < (valN (gH s) 0 : Int)
        · rw [dT hbig]
          have hL := lg_ge (gX s).1
          have hm : valN (gH s) 0 ≤ valN (gH s) 0 * lgN (gX s).1 := Nat.le_mul_of_pos_right _ hL.1
          rcases hU with hu | hu | hu | hu <;> rw [hu] at next q3 hm ⊢
          · exact Gr_of (next true 0 a1 a2 a3 ⟨by decide, by decide⟩ h1 h2 h3 ⟨fun _ => rfl, fun _ => hz.2.1 (by omega), fun _ => hz.2.2.1 (by omega), fun _ => hz.2.2.2 (by omega)⟩ (fun _ => by omega) (fun h => by cases h))
          · exact Gr_of (next true a0 0 a2 a3 h0 ⟨by decide, by decide⟩ h2 h3 ⟨fun h => by omega, fun _ => rfl, fun _ => hz.2.2.1 (by omega), fun _ => hz.2.2.2 (by omega)⟩ (fun _ => by omega) (fun h => by cases h))
          · exact Gr_of (next true a0 a1 0 a3 h0 h1 ⟨by decide, by decide⟩ h3 ⟨fun h => by omega, fun h => by omega, fun _ => rfl, fun _ => hz.2.2.2 (by omega)⟩ (fun _ => by omega) (fun h => by cases h))
          · exact Gr_of (next true a0 a1 a2 0 h0 h1 h2 ⟨by decide, by decide⟩ ⟨fun h => by omega, fun h => by omega, fun h => by omega, fun _ => rfl⟩ (fun _ => by omega) (fun h => by cases h))
        · rw [dF hbig]
          have hr : rvalueV (gH s) = (valN (gH s) 0 : Int) := by unfold rvalueV; rw [satV_lt (by omega)]
          have hv0 : 0 ≤ rvalueV (gH s) ∧ rvalueV (gH s) ≤ 1099511627776 := by rw [hr]; omega
          have hbt : b = true → 1099511627776 < T + valN (gH s) 0 * lgN (gX s).1 := fun h => by have := hb h; omega
          rcases hU with hu | hu | hu | hu <;> rw [hu] at next q3 hbt ⊢
          · refine Gr_of (next b (rvalueV (gH s)) a1 a2 a3 hv0 h1 h2 h3 ⟨fun h => by omega, fun _ => hz.2.1 (by omega), fun _ => hz.2.2.1 (by omega), fun _ => hz.2.2.2 (by omega)⟩ hbt (fun h => ?_))
            have := hT h
            have z0 := hz.1 (by omega)
            rw [hr]
            simp only [lgN]
            omega
          · refine Gr_of (next b a0 (rvalueV (gH s)) a2 a3 h0 hv0 h2 h3 ⟨fun h => by omega, fun h => by omega, fun _ => hz.2.2.1 (by omega), fun _ => hz.2.2.2 (by omega)⟩ hbt (fun h => ?_))
            have := hT h
            have z0 := hz.2.1 (by omega)
            rw [hr]
            simp only [lgN]
            omega
          · refine Gr_of (next b a0 a1 (rvalueV (gH s)) a3 h0 h1 hv0 h3 ⟨fun h => by omega, fun h => by omega, fun h => by omega, fun _ => hz.2.2.2 (by omega)⟩ hbt (fun h => ?_))
            have := hT h
            have z0 := hz.2.2.1 (by omega)
            rw [hr]
            simp only [lgN]
            omega
          · refine Gr_of (next b a0 a1 a2 (rvalueV (gH s)) h0 h1 h2 hv0 ⟨fun h => by omega, fun h => by omega, fun h => by omega, fun h => by omega⟩ hbt (fun h => ?_))
            have := hT h
            have z0 := hz.2.2.2 (by omega)
            rw [hr]
            simp only [lgN]
            omega
theorem r3parse_ok : FnOk E r3parse_id r3parse_W := r3parse_ok_of fun s hk => by
  have hs := okL1_iff.1 hk
  rw [r3parse_t]
  cases s with
  | nil => rfl
  | cons c t =>
    rw [eqF (show ((c :: t).length : Int) ≠ 0 by simp only [List.length_cons]; omega), cond_false]
    have := r3parse_0 ((c :: t).length + 1) (c :: t) (Nat.lt_succ_self _) hs (-1) false 0 0 0 0 0 (by decide) (by decide) (.inr (by simp)) ⟨by decide, by decide⟩ ⟨by decide, by decide⟩ ⟨by decide, by decide⟩ ⟨by decide, by decide⟩ ⟨fun _ => rfl, fun _ => rfl, fun _ => rfl, fun _ => rfl⟩ (fun h => by cases h) (fun _ => rfl)
    have e : (dSum ((c :: t).length + 1) (-1) (c :: t)).map (0 + ·) = dSum ((c :: t).length + 1) (-1) (c :: t) := by
      cases dSum ((c :: t).length + 1) (-1) (c :: t) <;> simp
    rw [e] at this
    exact Gr_of this
end Go.Proofs.YtgniedpgdjmfpaaGreatDoor.Rf
namespace Go.Proofs.YtgniedpgdjmfpaaGreatDoor.Rf
open Go Go.RowKit Go.Sort Go.Proofs.YtgniedpgdjmfpaaGreatDoor.Mir
theorem valN_app : ∀ (s t : List UInt8) (n : Nat), valN (s ++ t) n = valN t (valN s n)
  | [], _, _ => rfl
  | c :: s, t, n => valN_app s t _
theorem dg_nat {n : Nat} (h : n < 10) : (dg n).toNat = 48 + n := by
  unfold dg
  rw [UInt8.toNat_ofNat', Nat.mod_eq_of_lt (by omega)]
theorem dg_isD {n : Nat} (h : n < 10) : isD (dg n) = true := isD_iff.2 (by rw [dg_nat h]; omega)
theorem digsF_isD : ∀ (f u : Nat), (digsF f u).all isD = true
  | 0, _ => rfl
  | f + 1, u => by
    unfold digsF
    split
    · rename_i h; simp [dg_isD h]
    · rw [List.all_append, digsF_isD f]; simp [dg_isD (Nat.mod_lt u (by decide))]
theorem digsF_val : ∀ (f u : Nat), u < 10 ^ f → valN (digsF f u) 0 = u
  | 0, u, h => by simp at h; subst h; rfl
  | f + 1, u, h => by
    unfold digsF
    split
    · rename_i hu
      show 0 * 10 + ((dg u).toNat - 48) = u
      rw [dg_nat hu]; omega
    · have h10 : 10 ^ (f + 1) = 10 * 10 ^ f := by rw [Nat.pow_succ, Nat.mul_comm]
      rw [valN_app, digsF_val f (u / 10) (by omega)]
      show u / 10 * 10 + ((dg (u % 10)).toNat - 48) = u
      rw [dg_nat (Nat.mod_lt u (by decide))]; omega
theorem lead0_app {s : List UInt8} (t : List UInt8) (h : lead0 s = false) (h2 : s ≠ [48]) : lead0 (s ++ t) = false := by
  match s, h, h2 with
  | [c], _, h2 =>
    cases t with
    | nil => rfl
    | cons d t =>
      show (c == 48) = false
      simpa using fun e => h2 (by rw [e])
  | c :: d :: s, h, _ => exact h
theorem digsF_lead : ∀ (f u : Nat), 1 ≤ f → u < 10 ^ f → lead0 (digsF f u) = false ∧ (1 ≤ u → ∀ c t, digsF f u = c :: t → c ≠ 48)
  | 0, _, h, _ => absurd h (by decide)
  | f + 1, u, _, h => by
    unfold digsF
    split
    · rename_i hu
      refine ⟨rfl, fun h1 c t e => ?_⟩
      cases e
      intro e
      have := dg_nat hu
      rw [e] at this
      have h48 : (48 : UInt8).toNat = 48 := rfl
      omega
    · rename_i hu
      have h10 : 10 ^ (f + 1) = 10 * 10 ^ f := by rw [Nat.pow_succ, Nat.mul_comm]
      have hf : 1 ≤ f := by
        rcases Nat.eq_zero_or_pos f with rfl | h
        · simp at h; omega
        · exact h
      obtain ⟨q1, q2⟩ := digsF_lead f (u / 10) hf (by omega)
      have q2 := q2 (by omega)
      refine ⟨lead0_app _ q1 fun e => q2 _ _ e rfl, fun _ c t e => ?_⟩
      cases hd : digsF f (u / 10) with
      | nil => rw [hd] at q1; cases q1
      | cons a s =>
        rw [hd] at e
        cases e
        exact q2 _ _ hd
theorem pow20 {u : Nat} (h : u < 9223372036854775808) : u < 10 ^ 20 := Nat.lt_of_lt_of_le h (by decide)
theorem text_whole {n : Int} (h0 : 0 ≤ n) (h1 : n < 9223372036854775808) : wholeB (textV n) = true ∧ (valN (textV n) 0 : Int) = n ∧ (textV n).all isD = true := by
  have e : textV n = digs n.toNat := by unfold textV; rw [dF (by omega)]; rfl
  rw [e]
  unfold digs
  have hp := pow20 (u := n.toNat) (by omega)
  refine ⟨?_, by rw [digsF_val 20 _ hp]; omega, digsF_isD 20 _⟩
  unfold wholeB
  rw [digsF_isD, (digsF_lead 20 _ (by decide) hp).1]
  rfl
theorem text_cnt {n most : Int} (h0 : 0 ≤ n) (h1 : n ≤ most) (h2 : n < 9223372036854775808) : cntP (textV n) most = (n, 0) := by
  obtain ⟨q1, q2, _⟩ := text_whole h0 h2
  unfold cntP
  rw [q1, Bool.not_true, cond_false, overP_ge (by omega), q2]
def nmD : Nat → List UInt8
  | 0 => [104]
  | 1 => [109]
  | 2 => [115]
  | _ => [109, 115]
def tpc (n : Int) (i : Nat) : List UInt8 := bif decide (0 < n / (lgN i : Int)) then textV (n / (lgN i : Int)) ++ nmD i else []
def txF : Nat → Nat → Int → List UInt8
  | 0, _, _ => []
  | k + 1, i, n => tpc n i ++ txF k (i + 1) (n % (lgN i : Int))
def dtV (n : Int) : List UInt8 := bif (bif decide (n < 0) then true else decide ((1099511627776 : Int) < n)) then [] else bif n == 0 then [48, 115] else txF 4 0 n
def dtSh (L : Int) (nm : List UInt8) (n : Int) (out : List UInt8) (K : Int → List UInt8 → Option (List (TV E))) : Option (List (TV E)) :=
  bif (!(L == 0)) then (bif decide ((0 : Int) < w64 (Int.tdiv n L)) then (bif okI (w64 (Int.tdiv n L)) then (bif decide ((textV (w64 (Int.tdiv n L))).length + nm.length ≤ maxStr) then (bif decide (out.length + (textV (w64 (Int.tdiv n L)) ++ nm).length ≤ maxStr) then K (w64 (n - w64 (w64 (Int.tdiv n L) * L))) (out ++ (textV (w64 (Int.tdiv n L)) ++ nm)) else none) else none) else none) else K n out) else none
def r3Sh (L : Int) (nm : List UInt8) (n : Int) (out : List UInt8) (K : Int → List UInt8 → Option (List (TV E))) : Option (List (TV E)) :=
  bif (!(L == 0)) then (bif decide ((0 : Int) < w64 (Int.tdiv n L)) then (bif (!(L == 0)) then (bif okI (w64 (Int.tdiv n L)) then (bif decide (out.length + (textV (w64 (Int.tdiv n L))).length ≤ maxStr) then (bif decide ((out ++ textV (w64 (Int.tdiv n L))).length + nm.length ≤ maxStr) then (bif (!(L == 0)) then K (Int.tmod n L) ((out ++ textV (w64 (Int.tdiv n L))) ++ nm) else none) else none) else none) else none) else none) else (bif (!(L == 0)) then K (Int.tmod n L) out else none)) else none
theorem lg_facts (i : Nat) {n : Int} (h0 : 0 ≤ n) (h1 : n ≤ 1099511627776) : w64 (Int.tdiv n (lgN i : Int)) = n / (lgN i : Int) ∧ 0 ≤ n / (lgN i : Int) ∧ n / (lgN i : Int) ≤ n ∧ (n / (lgN i : Int)) * (lgN i : Int) = n - n % (lgN i : Int) ∧ 0 ≤ n % (lgN i : Int) ∧ n % (lgN i : Int) ≤ n ∧ ((lgN i : Int) == 0) = false := by
  have hL := lg_ge i
  have a1 := Int.ediv_nonneg h0 (show (0 : Int) ≤ (lgN i : Int) by omega)
  have a2 := Int.ediv_le_self (lgN i : Int) h0
  have a3 := Int.mul_ediv_add_emod n (lgN i : Int)
  have a4 := Int.emod_nonneg n (show (lgN i : Int) ≠ 0 by omega)
  have a5 : n / (lgN i : Int) * (lgN i : Int) = (lgN i : Int) * (n / (lgN i : Int)) := Int.mul_comm _ _
  have a6 : 0 ≤ (lgN i : Int) * (n / (lgN i : Int)) := Int.mul_nonneg (by omega) a1
  refine ⟨by rw [Int.tdiv_eq_ediv_of_nonneg h0, w64_id (by omega) (by omega)], a1, a2, by omega, a4, by omega, eqF (by omega)⟩
theorem nm_le (i : Nat) : (nmD i).length ≤ 2 := by unfold nmD; split <;> decide
theorem zero_mod (i : Nat) {n : Int} (h : n / (lgN i : Int) = 0) : n % (lgN i : Int) = n := by
  have := Int.mul_ediv_add_emod n (lgN i : Int)
  rw [h, Int.mul_zero] at this
  omega
theorem dtSh_eq (i : Nat) {n : Int} (h0 : 0 ≤ n) (h1 : n ≤ 1099511627776) (out : List UInt8) (ho : out.length ≤ 1000) (K : Int → List UInt8 → Option (List (TV E))) : dtSh (lgN i : Int) (nmD i) n out K = K (n % (lgN i : Int)) (out ++ tpc n i) := by
  obtain ⟨a1, a2, a3, a4, a5, a6, a7⟩ := lg_facts i h0 h1
  have hl := textV_len (n / (lgN i : Int))
  have hn := nm_le i
  unfold dtSh tpc
  rw [a1, a7, a4, Bool.not_false, cond_true]
  by_cases hk : 0 < n / (lgN i : Int)
  · have hI : okI (n / (lgN i : Int)) = true := decide_eq_true (by omega)
    rw [dT hk, hI, msT (show (textV (n / (lgN i : Int))).length + (nmD i).length ≤ 4611686018427387904 by omega), msT (show out.length + (textV (n / (lgN i : Int)) ++ nmD i).length ≤ 4611686018427387904 by rw [List.length_append]; omega), w64_id (show -9223372036854775808 ≤ n - n % (lgN i : Int) by omega) (by omega), w64_id (by omega) (by omega), show n - (n - n % (lgN i : Int)) = n % (lgN i : Int) by omega]
    rfl
  · rw [dF hk, cond_false, cond_false, List.append_nil, zero_mod i (by omega)]
theorem r3Sh_eq (i : Nat) {n : Int} (h0 : 0 ≤ n) (h1 : n ≤ 1099511627776) (out : List UInt8) (ho : out.length ≤ 1000) (K : Int → List UInt8 → Option (List (TV E))) : r3Sh (lgN i : Int) (nmD i) n out K = K (n % (lgN i : Int)) (out ++ tpc n i) := by
  obtain ⟨a1, a2, a3, a4, a5, a6, a7⟩ := lg_facts i h0 h1
  have hl := textV_len (n / (lgN i : Int))
  have hn := nm_le i
  unfold r3Sh tpc
  rw [a1, a7, Int.tmod_eq_emod_of_nonneg h0]
  simp only [Bool.not_false, cond_true]
  by_cases hk : 0 < n / (lgN i : Int)
  · have hI : okI (n / (lgN i : Int)) = true := decide_eq_true (by omega)
    rw [dT hk, hI, msT (show out.length + (textV (n / (lgN i : Int))).length ≤ 4611686018427387904 by omega), msT (show (out ++ textV (n / (lgN i : Int))).length + (nmD i).length ≤ 4611686018427387904 by rw [List.length_append]; omega)]
    simp only [cond_true, List.append_assoc]
  · rw [dF hk, cond_false, cond_false, List.append_nil]
theorem tpc_len (n : Int) (i : Nat) : (tpc n i).length ≤ 23 := by
  unfold tpc
  have := textV_len (n / (lgN i : Int))
  have := nm_le i
  cases decide (0 < n / (lgN i : Int)) with
  | true => rw [cond_true, List.length_append]; omega
  | false => exact Nat.zero_le _
theorem tx_steps {n : Int} (h0 : 0 ≤ n) (h1 : n ≤ 1099511627776) : (0 ≤ n % (lgN 0 : Int) ∧ n % (lgN 0 : Int) ≤ 1099511627776) ∧ (0 ≤ n % (lgN 0 : Int) % (lgN 1 : Int) ∧ n % (lgN 0 : Int) % (lgN 1 : Int) ≤ 1099511627776) ∧ (0 ≤ n % (lgN 0 : Int) % (lgN 1 : Int) % (lgN 2 : Int) ∧ n % (lgN 0 : Int) % (lgN 1 : Int) % (lgN 2 : Int) ≤ 1099511627776) := by
  rw [show ((lgN 0 : Nat) : Int) = 3600000 from rfl, show ((lgN 1 : Nat) : Int) = 60000 from rfl, show ((lgN 2 : Nat) : Int) = 1000 from rfl]
  omega
noncomputable def dtext_W : FnW E := fn1 (E := E) .int .str (fun _ => true) dtV
def dtext_id : FuncId := 80
noncomputable def dtext_O : Oracle E := orac [(53, dgtext_W)] [] [] []
noncomputable def dtext_H : Hint E := Hint.mk [(0, [0, 3, 21, 22])] [] [] [] []
noncomputable def dtext_C0_k_0 (v0 : Int) (v1 : List UInt8) : ASt E := ASt.mk 46 [(0, .d (.int .i64 v0)), (3, .d (.str v1)), (21, .st .a4_st120 (⟨(⟨(3600000 : Int), ([104] : List UInt8)⟩ : St120), (⟨(60000 : Int), ([109] : List UInt8)⟩ : St120), (⟨(1000 : Int), ([115] : List UInt8)⟩ : St120), (⟨(1 : Int), ([109, 115] : List UInt8)⟩ : St120)⟩ : Arr121)), (22, .d (.int .i64 (0 : Int)))] [] 0
noncomputable def dtext_C0_k_1 (v0 : Int) (v1 : List UInt8) : ASt E := ASt.mk 46 [(0, .d (.int .i64 v0)), (3, .d (.str v1)), (21, .st .a4_st120 (⟨(⟨(3600000 : Int), ([104] : List UInt8)⟩ : St120), (⟨(60000 : Int), ([109] : List UInt8)⟩ : St120), (⟨(1000 : Int), ([115] : List UInt8)⟩ : St120), (⟨(1 : Int), ([109, 115] : List UInt8)⟩ : St120)⟩ : Arr121)), (22, .d (.int .i64 (1 : Int)))] [] 0
noncomputable def dtext_C0_k_2 (v0 : Int) (v1 : List UInt8) : ASt E := ASt.mk 46 [(0, .d (.int .i64 v0)), (3, .d (.str v1)), (21, .st .a4_st120 (⟨(⟨(3600000 : Int), ([104] : List UInt8)⟩ : St120), (⟨(60000 : Int), ([109] : List UInt8)⟩ : St120), (⟨(1000 : Int), ([115] : List UInt8)⟩ : St120), (⟨(1 : Int), ([109, 115] : List UInt8)⟩ : St120)⟩ : Arr121)), (22, .d (.int .i64 (2 : Int)))] [] 0
noncomputable def dtext_C0_k_3 (v0 : Int) (v1 : List UInt8) : ASt E := ASt.mk 46 [(0, .d (.int .i64 v0)), (3, .d (.str v1)), (21, .st .a4_st120 (⟨(⟨(3600000 : Int), ([104] : List UInt8)⟩ : St120), (⟨(60000 : Int), ([109] : List UInt8)⟩ : St120), (⟨(1000 : Int), ([115] : List UInt8)⟩ : St120), (⟨(1 : Int), ([109, 115] : List UInt8)⟩ : St120)⟩ : Arr121)), (22, .d (.int .i64 (3 : Int)))] [] 0
noncomputable def dtext_C0_k_4 (v0 : Int) (v1 : List UInt8) : ASt E := ASt.mk 46 [(0, .d (.int .i64 v0)), (3, .d (.str v1)), (21, .st .a4_st120 (⟨(⟨(3600000 : Int), ([104] : List UInt8)⟩ : St120), (⟨(60000 : Int), ([109] : List UInt8)⟩ : St120), (⟨(1000 : Int), ([115] : List UInt8)⟩ : St120), (⟨(1 : Int), ([109, 115] : List UInt8)⟩ : St120)⟩ : Arr121)), (22, .d (.int .i64 (4 : Int)))] [] 0
noncomputable def dtext_t (G : Nat → ASt E → Option (List (TV E))) (x0 : Int) : Option (List (TV E)) :=
  bif (bif (decide (x0 < (0 : Int))) then true else (decide ((1099511627776 : Int) < x0))) then some [⟨.str, ([] : List UInt8)⟩] else (bif (x0 == (0 : Int)) then some [⟨.str, ([48, 115] : List UInt8)⟩] else G 0 (dtext_C0_k_0 x0 []))
theorem dtext_e (G : Nat → ASt E → Option (List (TV E))) (x0 : Int) : runE dtext_O dtext_H G Tryz.f80 [⟨.int, x0⟩] = dtext_t G x0 := by kernel_rfl
noncomputable def dtext_t0_k_0 (G : Nat → ASt E → Option (List (TV E))) (v0 : Int) (v1 : List UInt8) : Option (List (TV E)) :=
  bif (!((3600000 : Int) == (0 : Int))) then (bif (decide ((0 : Int) < (w64 (Int.tdiv v0 (3600000 : Int))))) then (bif (okI (w64 (Int.tdiv v0 (3600000 : Int)))) then (bif (decide ((textV (w64 (Int.tdiv v0 (3600000 : Int)))).length + ([104] : List UInt8).length ≤ maxStr)) then (bif (decide (v1.length + ((textV (w64 (Int.tdiv v0 (3600000 : Int)))) ++ ([104] : List UInt8)).length ≤ maxStr)) then G 0 (dtext_C0_k_1 (w64 (v0 - (w64 ((w64 (Int.tdiv v0 (3600000 : Int))) * (3600000 : Int))))) (v1 ++ ((textV (w64 (Int.tdiv v0 (3600000 : Int)))) ++ ([104] : List UInt8)))) else none) else none) else none) else G 0 (dtext_C0_k_1 v0 v1)) else none
theorem dtext_l0_k_0 (G : Nat → ASt E → Option (List (TV E))) (v0 : Int) (v1 : List UInt8) : runL dtext_O dtext_H G Tryz.f80 0 (dtext_C0_k_0 v0 v1) = dtext_t0_k_0 G v0 v1 := by kernel_rfl
noncomputable def dtext_t0_k_1 (G : Nat → ASt E → Option (List (TV E))) (v0 : Int) (v1 : List UInt8) : Option (List (TV E)) :=
  bif (!((60000 : Int) == (0 : Int))) then (bif (decide ((0 : Int) < (w64 (Int.tdiv v0 (60000 : Int))))) then (bif (okI (w64 (Int.tdiv v0 (60000 : Int)))) then (bif (decide ((textV (w64 (Int.tdiv v0 (60000 : Int)))).length + ([109] : List UInt8).length ≤ maxStr)) then (bif (decide (v1.length + ((textV (w64 (Int.tdiv v0 (60000 : Int)))) ++ ([109] : List UInt8)).length ≤ maxStr)) then G 0 (dtext_C0_k_2 (w64 (v0 - (w64 ((w64 (Int.tdiv v0 (60000 : Int))) * (60000 : Int))))) (v1 ++ ((textV (w64 (Int.tdiv v0 (60000 : Int)))) ++ ([109] : List UInt8)))) else none) else none) else none) else G 0 (dtext_C0_k_2 v0 v1)) else none
theorem dtext_l0_k_1 (G : Nat → ASt E → Option (List (TV E))) (v0 : Int) (v1 : List UInt8) : runL dtext_O dtext_H G Tryz.f80 0 (dtext_C0_k_1 v0 v1) = dtext_t0_k_1 G v0 v1 := by kernel_rfl
noncomputable def dtext_t0_k_2 (G : Nat → ASt E → Option (List (TV E))) (v0 : Int) (v1 : List UInt8) : Option (List (TV E)) :=
  bif (!((1000 : Int) == (0 : Int))) then (bif (decide ((0 : Int) < (w64 (Int.tdiv v0 (1000 : Int))))) then (bif (okI (w64 (Int.tdiv v0 (1000 : Int)))) then (bif (decide ((textV (w64 (Int.tdiv v0 (1000 : Int)))).length + ([115] : List UInt8).length ≤ maxStr)) then (bif (decide (v1.length + ((textV (w64 (Int.tdiv v0 (1000 : Int)))) ++ ([115] : List UInt8)).length ≤ maxStr)) then G 0 (dtext_C0_k_3 (w64 (v0 - (w64 ((w64 (Int.tdiv v0 (1000 : Int))) * (1000 : Int))))) (v1 ++ ((textV (w64 (Int.tdiv v0 (1000 : Int)))) ++ ([115] : List UInt8)))) else none) else none) else none) else G 0 (dtext_C0_k_3 v0 v1)) else none
theorem dtext_l0_k_2 (G : Nat → ASt E → Option (List (TV E))) (v0 : Int) (v1 : List UInt8) : runL dtext_O dtext_H G Tryz.f80 0 (dtext_C0_k_2 v0 v1) = dtext_t0_k_2 G v0 v1 := by kernel_rfl
noncomputable def dtext_t0_k_3 (G : Nat → ASt E → Option (List (TV E))) (v0 : Int) (v1 : List UInt8) : Option (List (TV E)) :=
  bif (!((1 : Int) == (0 : Int))) then (bif (decide ((0 : Int) < (w64 (Int.tdiv v0 (1 : Int))))) then (bif (okI (w64 (Int.tdiv v0 (1 : Int)))) then (bif (decide ((textV (w64 (Int.tdiv v0 (1 : Int)))).length + ([109, 115] : List UInt8).length ≤ maxStr)) then (bif (decide (v1.length + ((textV (w64 (Int.tdiv v0 (1 : Int)))) ++ ([109, 115] : List UInt8)).length ≤ maxStr)) then G 0 (dtext_C0_k_4 (w64 (v0 - (w64 ((w64 (Int.tdiv v0 (1 : Int))) * (1 : Int))))) (v1 ++ ((textV (w64 (Int.tdiv v0 (1 : Int)))) ++ ([109, 115] : List UInt8)))) else none) else none) else none) else G 0 (dtext_C0_k_4 v0 v1)) else none
theorem dtext_l0_k_3 (G : Nat → ASt E → Option (List (TV E))) (v0 : Int) (v1 : List UInt8) : runL dtext_O dtext_H G Tryz.f80 0 (dtext_C0_k_3 v0 v1) = dtext_t0_k_3 G v0 v1 := by kernel_rfl
noncomputable def dtext_t0_k_4 (_G : Nat → ASt E → Option (List (TV E))) (_v0 : Int) (v1 : List UInt8) : Option (List (TV E)) :=
  some [⟨.str, v1⟩]
theorem dtext_l0_k_4 (G : Nat → ASt E → Option (List (TV E))) (v0 : Int) (v1 : List UInt8) : runL dtext_O dtext_H G Tryz.f80 0 (dtext_C0_k_4 v0 v1) = dtext_t0_k_4 G v0 v1 := by kernel_rfl
theorem dtext_f : Tryz.prog.funcs[80]? = some Tryz.f80 := by kernel_rfl
theorem dtext_n : (Tryz.f80.name == "runtime.NumGoroutine") = false := by kernel_rfl
theorem dtext_b : Tryz.f80.body.isNone = false := by kernel_rfl
theorem dtext_hO : OracleOk E dtext_O := orac_ok (.cons dgtext_ok .nil) .nil .nil .nil
theorem dtext_s0_k_0 {res : List (TV E)} {v0 : Int} {v1 : List UInt8} (h : dtext_t0_k_0 (Gr E Tryz.f80 res) v0 v1 = some res) : Ev E Tryz.f80 res 0 (dtext_C0_k_0 v0 v1) := Ev.step dtext_hO mix ((dtext_l0_k_0 _ v0 v1).trans h)
theorem dtext_s0_k_1 {res : List (TV E)} {v0 : Int} {v1 : List UInt8} (h : dtext_t0_k_1 (Gr E Tryz.f80 res) v0 v1 = some res) : Ev E Tryz.f80 res 0 (dtext_C0_k_1 v0 v1) := Ev.step dtext_hO mix ((dtext_l0_k_1 _ v0 v1).trans h)
theorem dtext_s0_k_2 {res : List (TV E)} {v0 : Int} {v1 : List UInt8} (h : dtext_t0_k_2 (Gr E Tryz.f80 res) v0 v1 = some res) : Ev E Tryz.f80 res 0 (dtext_C0_k_2 v0 v1) := Ev.step dtext_hO mix ((dtext_l0_k_2 _ v0 v1).trans h)
theorem dtext_s0_k_3 {res : List (TV E)} {v0 : Int} {v1 : List UInt8} (h : dtext_t0_k_3 (Gr E Tryz.f80 res) v0 v1 = some res) : Ev E Tryz.f80 res 0 (dtext_C0_k_3 v0 v1) := Ev.step dtext_hO mix ((dtext_l0_k_3 _ v0 v1).trans h)
theorem dtext_s0_k_4 {res : List (TV E)} {v0 : Int} {v1 : List UInt8} (h : dtext_t0_k_4 (Gr E Tryz.f80 res) v0 v1 = some res) : Ev E Tryz.f80 res 0 (dtext_C0_k_4 v0 v1) := Ev.step dtext_hO mix ((dtext_l0_k_4 _ v0 v1).trans h)
theorem dtext_ok_of (h : ∀ (x0 : Int), dtext_t (Gr E Tryz.f80 [⟨.str, dtV x0⟩]) x0 = some [⟨.str, dtV x0⟩]) : FnOk E dtext_id dtext_W := fn1_ok dtext_hO mix dtext_f dtext_n dtext_b (fun x0 _ => (dtext_e _ x0).trans (h x0))
theorem dtext_ok : FnOk E dtext_id dtext_W := dtext_ok_of fun n => by
  unfold dtV
  rw [dtext_t]
  cases hb : (bif decide (n < 0) then true else decide ((1099511627776 : Int) < n)) with
  | true => rfl
  | false =>
    have h0 : 0 ≤ n ∧ n ≤ 1099511627776 := by
      by_cases h : n < 0
      · rw [dT h] at hb; cases hb
      · rw [dF h, cond_false] at hb
        have := of_decide_eq_false hb
        omega
    simp only [cond_false]
    cases n == 0 with
    | true => rfl
    | false =>
      simp only [cond_false]
      obtain ⟨⟨b1, b2⟩, ⟨b3, b4⟩, b5, b6⟩ := tx_steps h0.1 h0.2
      have l0 := tpc_len n 0
      have l1 := tpc_len (n % (lgN 0 : Int)) 1
      have l2 := tpc_len (n % (lgN 0 : Int) % (lgN 1 : Int)) 2
      have e0 : ∀ (G : Nat → ASt E → Option (List (TV E))) (n : Int) (out : List UInt8), dtext_t0_k_0 G n out = dtSh (lgN 0 : Int) (nmD 0) n out (fun a b => G 0 (dtext_C0_k_1 a b)) := fun G n out => by kernel_rfl
      have e1 : ∀ (G : Nat → ASt E → Option (List (TV E))) (n : Int) (out : List UInt8), dtext_t0_k_1 G n out = dtSh (lgN 1 : Int) (nmD 1) n out (fun a b => G 0 (dtext_C0_k_2 a b)) := fun G n out => by kernel_rfl
      have e2 : ∀ (G : Nat → ASt E → Option (List (TV E))) (n : Int) (out : List UInt8), dtext_t0_k_2 G n out = dtSh (lgN 2 : Int) (nmD 2) n out (fun a b => G 0 (dtext_C0_k_3 a b)) := fun G n out => by kernel_rfl
      have e3 : ∀ (G : Nat → ASt E → Option (List (TV E))) (n : Int) (out : List UInt8), dtext_t0_k_3 G n out = dtSh (lgN 3 : Int) (nmD 3) n out (fun a b => G 0 (dtext_C0_k_4 a b)) := fun G n out => by kernel_rfl
      refine Gr_of (dtext_s0_k_0 ?_)
      rw [e0, dtSh_eq 0 h0.1 h0.2 [] (by simp)]
      refine Gr_of (dtext_s0_k_1 ?_)
      rw [e1, dtSh_eq 1 b1 b2 _ (by rw [List.nil_append]; omega)]
      refine Gr_of (dtext_s0_k_2 ?_)
      rw [e2, dtSh_eq 2 b3 b4 _ (by simp only [List.nil_append, List.length_append]; omega)]
      refine Gr_of (dtext_s0_k_3 ?_)
      rw [e3, dtSh_eq 3 b5 b6 _ (by simp only [List.nil_append, List.length_append]; omega)]
      refine Gr_of (dtext_s0_k_4 ?_)
      show (some [⟨.str, ((([] ++ tpc n 0) ++ tpc (n % (lgN 0 : Int)) 1) ++ tpc (n % (lgN 0 : Int) % (lgN 1 : Int)) 2) ++ tpc (n % (lgN 0 : Int) % (lgN 1 : Int) % (lgN 2 : Int)) 3⟩] : Option (List (TV E))) = some [⟨.str, tpc n 0 ++ (tpc (n % (lgN 0 : Int)) 1 ++ (tpc (n % (lgN 0 : Int) % (lgN 1 : Int)) 2 ++ (tpc (n % (lgN 0 : Int) % (lgN 1 : Int) % (lgN 2 : Int)) 3 ++ [])))⟩]
      simp only [List.nil_append, List.append_nil, List.append_assoc]
noncomputable def r3text_W : FnW E := fn1 (E := E) .int .str (fun _ => true) dtV
def r3text_id : FuncId := 148
noncomputable def r3text_O : Oracle E := orac [(106, rtext_W), (175, r3longs_W), (176, r3names_W)] [] [] []
noncomputable def r3text_H : Hint E := Hint.mk [(0, [0, 3, 4, 5, 6])] [] [] [] []
noncomputable def r3text_C0_0 (v0 : Int) (v1 : List UInt8) (v2 v3 v4 v5 : Int) (v6 v7 v8 v9 : List UInt8) : ASt E := ASt.mk 45 [(0, .d (.int .i64 v0)), (3, .d (.str v1)), (4, .ptr 0 0), (5, .ptr 1 0), (6, .d (.int .i64 (0 : Int)))] [(0, .box [.d (.int .i64 v2), .d (.int .i64 v3), .d (.int .i64 v4), .d (.int .i64 v5)]), (1, .box [.d (.str v6), .d (.str v7), .d (.str v8), .d (.str v9)])] 2
noncomputable def r3text_C0_1 (v0 : Int) (v1 : List UInt8) (v2 v3 v4 v5 : Int) (v6 v7 v8 v9 : List UInt8) : ASt E := ASt.mk 45 [(0, .d (.int .i64 v0)), (3, .d (.str v1)), (4, .ptr 0 0), (5, .ptr 1 0), (6, .d (.int .i64 (1 : Int)))] [(0, .box [.d (.int .i64 v2), .d (.int .i64 v3), .d (.int .i64 v4), .d (.int .i64 v5)]), (1, .box [.d (.str v6), .d (.str v7), .d (.str v8), .d (.str v9)])] 2
noncomputable def r3text_C0_2 (v0 : Int) (v1 : List UInt8) (v2 v3 v4 v5 : Int) (v6 v7 v8 v9 : List UInt8) : ASt E := ASt.mk 45 [(0, .d (.int .i64 v0)), (3, .d (.str v1)), (4, .ptr 0 0), (5, .ptr 1 0), (6, .d (.int .i64 (2 : Int)))] [(0, .box [.d (.int .i64 v2), .d (.int .i64 v3), .d (.int .i64 v4), .d (.int .i64 v5)]), (1, .box [.d (.str v6), .d (.str v7), .d (.str v8), .d (.str v9)])] 2
noncomputable def r3text_C0_3 (v0 : Int) (v1 : List UInt8) (v2 v3 v4 v5 : Int) (v6 v7 v8 v9 : List UInt8) : ASt E := ASt.mk 45 [(0, .d (.int .i64 v0)), (3, .d (.str v1)), (4, .ptr 0 0), (5, .ptr 1 0), (6, .d (.int .i64 (3 : Int)))] [(0, .box [.d (.int .i64 v2), .d (.int .i64 v3), .d (.int .i64 v4), .d (.int .i64 v5)]), (1, .box [.d (.str v6), .d (.str v7), .d (.str v8), .d (.str v9)])] 2
noncomputable def r3text_C0_4 (v0 : Int) (v1 : List UInt8) (v2 v3 v4 v5 : Int) (v6 v7 v8 v9 : List UInt8) : ASt E := ASt.mk 45 [(0, .d (.int .i64 v0)), (3, .d (.str v1)), (4, .ptr 0 0), (5, .ptr 1 0), (6, .d (.int .i64 (4 : Int)))] [(0, .box [.d (.int .i64 v2), .d (.int .i64 v3), .d (.int .i64 v4), .d (.int .i64 v5)]), (1, .box [.d (.str v6), .d (.str v7), .d (.str v8), .d (.str v9)])] 2
noncomputable def r3text_t (G : Nat → ASt E → Option (List (TV E))) (x0 : Int) : Option (List (TV E)) :=
  bif (bif (decide (x0 < (0 : Int))) then true else (decide ((1099511627776 : Int) < x0))) then some [⟨.str, ([] : List UInt8)⟩] else (bif (x0 == (0 : Int)) then some [⟨.str, ([48, 115] : List UInt8)⟩] else G 0 (r3text_C0_0 x0 [] longsV.e0 longsV.e1 longsV.e2 longsV.e3 namesV.e0 namesV.e1 namesV.e2 namesV.e3))
theorem r3text_e (G : Nat → ASt E → Option (List (TV E))) (x0 : Int) : runE r3text_O r3text_H G Tryz.f148 [⟨.int, x0⟩] = r3text_t G x0 := by kernel_rfl
noncomputable def r3text_t0_0 (G : Nat → ASt E → Option (List (TV E))) (v0 : Int) (v1 : List UInt8) (v2 v3 v4 v5 : Int) (v6 v7 v8 v9 : List UInt8) : Option (List (TV E)) :=
  bif (!(v2 == (0 : Int))) then (bif (decide ((0 : Int) < (w64 (Int.tdiv v0 v2)))) then (bif (!(v2 == (0 : Int))) then (bif (okI (w64 (Int.tdiv v0 v2))) then (bif (decide (v1.length + (textV (w64 (Int.tdiv v0 v2))).length ≤ maxStr)) then (bif (decide ((v1 ++ (textV (w64 (Int.tdiv v0 v2)))).length + v6.length ≤ maxStr)) then (bif (!(v2 == (0 : Int))) then G 0 (r3text_C0_1 (Int.tmod v0 v2) ((v1 ++ (textV (w64 (Int.tdiv v0 v2)))) ++ v6) v2 v3 v4 v5 v6 v7 v8 v9) else none) else none) else none) else none) else none) else (bif (!(v2 == (0 : Int))) then G 0 (r3text_C0_1 (Int.tmod v0 v2) v1 v2 v3 v4 v5 v6 v7 v8 v9) else none)) else none
theorem r3text_l0_0 (G : Nat → ASt E → Option (List (TV E))) (v0 : Int) (v1 : List UInt8) (v2 v3 v4 v5 : Int) (v6 v7 v8 v9 : List UInt8) : runL r3text_O r3text_H G Tryz.f148 0 (r3text_C0_0 v0 v1 v2 v3 v4 v5 v6 v7 v8 v9) = r3text_t0_0 G v0 v1 v2 v3 v4 v5 v6 v7 v8 v9 := by kernel_rfl
noncomputable def r3text_t0_1 (G : Nat → ASt E → Option (List (TV E))) (v0 : Int) (v1 : List UInt8) (v2 v3 v4 v5 : Int) (v6 v7 v8 v9 : List UInt8) : Option (List (TV E)) :=
  bif (!(v3 == (0 : Int))) then (bif (decide ((0 : Int) < (w64 (Int.tdiv v0 v3)))) then (bif (!(v3 == (0 : Int))) then (bif (okI (w64 (Int.tdiv v0 v3))) then (bif (decide (v1.length + (textV (w64 (Int.tdiv v0 v3))).length ≤ maxStr)) then (bif (decide ((v1 ++ (textV (w64 (Int.tdiv v0 v3)))).length + v7.length ≤ maxStr)) then (bif (!(v3 == (0 : Int))) then G 0 (r3text_C0_2 (Int.tmod v0 v3) ((v1 ++ (textV (w64 (Int.tdiv v0 v3)))) ++ v7) v2 v3 v4 v5 v6 v7 v8 v9) else none) else none) else none) else none) else none) else (bif (!(v3 == (0 : Int))) then G 0 (r3text_C0_2 (Int.tmod v0 v3) v1 v2 v3 v4 v5 v6 v7 v8 v9) else none)) else none
theorem r3text_l0_1 (G : Nat → ASt E → Option (List (TV E))) (v0 : Int) (v1 : List UInt8) (v2 v3 v4 v5 : Int) (v6 v7 v8 v9 : List UInt8) : runL r3text_O r3text_H G Tryz.f148 0 (r3text_C0_1 v0 v1 v2 v3 v4 v5 v6 v7 v8 v9) = r3text_t0_1 G v0 v1 v2 v3 v4 v5 v6 v7 v8 v9 := by kernel_rfl
noncomputable def r3text_t0_2 (G : Nat → ASt E → Option (List (TV E))) (v0 : Int) (v1 : List UInt8) (v2 v3 v4 v5 : Int) (v6 v7 v8 v9 : List UInt8) : Option (List (TV E)) :=
  bif (!(v4 == (0 : Int))) then (bif (decide ((0 : Int) < (w64 (Int.tdiv v0 v4)))) then (bif (!(v4 == (0 : Int))) then (bif (okI (w64 (Int.tdiv v0 v4))) then (bif (decide (v1.length + (textV (w64 (Int.tdiv v0 v4))).length ≤ maxStr)) then (bif (decide ((v1 ++ (textV (w64 (Int.tdiv v0 v4)))).length + v8.length ≤ maxStr)) then (bif (!(v4 == (0 : Int))) then G 0 (r3text_C0_3 (Int.tmod v0 v4) ((v1 ++ (textV (w64 (Int.tdiv v0 v4)))) ++ v8) v2 v3 v4 v5 v6 v7 v8 v9) else none) else none) else none) else none) else none) else (bif (!(v4 == (0 : Int))) then G 0 (r3text_C0_3 (Int.tmod v0 v4) v1 v2 v3 v4 v5 v6 v7 v8 v9) else none)) else none
theorem r3text_l0_2 (G : Nat → ASt E → Option (List (TV E))) (v0 : Int) (v1 : List UInt8) (v2 v3 v4 v5 : Int) (v6 v7 v8 v9 : List UInt8) : runL r3text_O r3text_H G Tryz.f148 0 (r3text_C0_2 v0 v1 v2 v3 v4 v5 v6 v7 v8 v9) = r3text_t0_2 G v0 v1 v2 v3 v4 v5 v6 v7 v8 v9 := by kernel_rfl
noncomputable def r3text_t0_3 (G : Nat → ASt E → Option (List (TV E))) (v0 : Int) (v1 : List UInt8) (v2 v3 v4 v5 : Int) (v6 v7 v8 v9 : List UInt8) : Option (List (TV E)) :=
  bif (!(v5 == (0 : Int))) then (bif (decide ((0 : Int) < (w64 (Int.tdiv v0 v5)))) then (bif (!(v5 == (0 : Int))) then (bif (okI (w64 (Int.tdiv v0 v5))) then (bif (decide (v1.length + (textV (w64 (Int.tdiv v0 v5))).length ≤ maxStr)) then (bif (decide ((v1 ++ (textV (w64 (Int.tdiv v0 v5)))).length + v9.length ≤ maxStr)) then (bif (!(v5 == (0 : Int))) then G 0 (r3text_C0_4 (Int.tmod v0 v5) ((v1 ++ (textV (w64 (Int.tdiv v0 v5)))) ++ v9) v2 v3 v4 v5 v6 v7 v8 v9) else none) else none) else none) else none) else none) else (bif (!(v5 == (0 : Int))) then G 0 (r3text_C0_4 (Int.tmod v0 v5) v1 v2 v3 v4 v5 v6 v7 v8 v9) else none)) else none
theorem r3text_l0_3 (G : Nat → ASt E → Option (List (TV E))) (v0 : Int) (v1 : List UInt8) (v2 v3 v4 v5 : Int) (v6 v7 v8 v9 : List UInt8) : runL r3text_O r3text_H G Tryz.f148 0 (r3text_C0_3 v0 v1 v2 v3 v4 v5 v6 v7 v8 v9) = r3text_t0_3 G v0 v1 v2 v3 v4 v5 v6 v7 v8 v9 := by kernel_rfl
noncomputable def r3text_t0_4 (_G : Nat → ASt E → Option (List (TV E))) (_v0 : Int) (v1 : List UInt8) (_v2 _v3 _v4 _v5 : Int) (_v6 _v7 _v8 _v9 : List UInt8) : Option (List (TV E)) :=
  some [⟨.str, v1⟩]
theorem r3text_l0_4 (G : Nat → ASt E → Option (List (TV E))) (v0 : Int) (v1 : List UInt8) (v2 v3 v4 v5 : Int) (v6 v7 v8 v9 : List UInt8) : runL r3text_O r3text_H G Tryz.f148 0 (r3text_C0_4 v0 v1 v2 v3 v4 v5 v6 v7 v8 v9) = r3text_t0_4 G v0 v1 v2 v3 v4 v5 v6 v7 v8 v9 := by kernel_rfl
theorem r3text_f : Tryz.prog.funcs[148]? = some Tryz.f148 := by kernel_rfl
theorem r3text_n : (Tryz.f148.name == "runtime.NumGoroutine") = false := by kernel_rfl
theorem r3text_b : Tryz.f148.body.isNone = false := by kernel_rfl
theorem r3text_hO : OracleOk E r3text_O := orac_ok (.cons rtext_ok (.cons r3longs_ok (.cons r3names_ok .nil))) .nil .nil .nil
theorem r3text_s0_0 {res : List (TV E)} {v0 : Int} {v1 : List UInt8} {v2 v3 v4 v5 : Int} {v6 v7 v8 v9 : List UInt8} (h : r3text_t0_0 (Gr E Tryz.f148 res) v0 v1 v2 v3 v4 v5 v6 v7 v8 v9 = some res) : Ev E Tryz.f148 res 0 (r3text_C0_0 v0 v1 v2 v3 v4 v5 v6 v7 v8 v9) := Ev.step r3text_hO mix ((r3text_l0_0 _ v0 v1 v2 v3 v4 v5 v6 v7 v8 v9).trans h)
theorem r3text_s0_1 {res : List (TV E)} {v0 : Int} {v1 : List UInt8} {v2 v3 v4 v5 : Int} {v6 v7 v8 v9 : List UInt8} (h : r3text_t0_1 (Gr E Tryz.f148 res) v0 v1 v2 v3 v4 v5 v6 v7 v8 v9 = some res) : Ev E Tryz.f148 res 0 (r3text_C0_1 v0 v1 v2 v3 v4 v5 v6 v7 v8 v9) := Ev.step r3text_hO mix ((r3text_l0_1 _ v0 v1 v2 v3 v4 v5 v6 v7 v8 v9).trans h)
theorem r3text_s0_2 {res : List (TV E)} {v0 : Int} {v1 : List UInt8} {v2 v3 v4 v5 : Int} {v6 v7 v8 v9 : List UInt8} (h : r3text_t0_2 (Gr E Tryz.f148 res) v0 v1 v2 v3 v4 v5 v6 v7 v8 v9 = some res) : Ev E Tryz.f148 res 0 (r3text_C0_2 v0 v1 v2 v3 v4 v5 v6 v7 v8 v9) := Ev.step r3text_hO mix ((r3text_l0_2 _ v0 v1 v2 v3 v4 v5 v6 v7 v8 v9).trans h)
theorem r3text_s0_3 {res : List (TV E)} {v0 : Int} {v1 : List UInt8} {v2 v3 v4 v5 : Int} {v6 v7 v8 v9 : List UInt8} (h : r3text_t0_3 (Gr E Tryz.f148 res) v0 v1 v2 v3 v4 v5 v6 v7 v8 v9 = some res) : Ev E Tryz.f148 res 0 (r3text_C0_3 v0 v1 v2 v3 v4 v5 v6 v7 v8 v9) := Ev.step r3text_hO mix ((r3text_l0_3 _ v0 v1 v2 v3 v4 v5 v6 v7 v8 v9).trans h)
theorem r3text_s0_4 {res : List (TV E)} {v0 : Int} {v1 : List UInt8} {v2 v3 v4 v5 : Int} {v6 v7 v8 v9 : List UInt8} (h : r3text_t0_4 (Gr E Tryz.f148 res) v0 v1 v2 v3 v4 v5 v6 v7 v8 v9 = some res) : Ev E Tryz.f148 res 0 (r3text_C0_4 v0 v1 v2 v3 v4 v5 v6 v7 v8 v9) := Ev.step r3text_hO mix ((r3text_l0_4 _ v0 v1 v2 v3 v4 v5 v6 v7 v8 v9).trans h)
theorem r3text_ok_of (h : ∀ (x0 : Int), r3text_t (Gr E Tryz.f148 [⟨.str, dtV x0⟩]) x0 = some [⟨.str, dtV x0⟩]) : FnOk E r3text_id r3text_W := fn1_ok r3text_hO mix r3text_f r3text_n r3text_b (fun x0 _ => (r3text_e _ x0).trans (h x0))
theorem r3text_ok : FnOk E r3text_id r3text_W := r3text_ok_of fun n => by
  unfold dtV
  rw [r3text_t]
  cases hb : (bif decide (n < 0) then true else decide ((1099511627776 : Int) < n)) with
  | true => rfl
  | false =>
    have h0 : 0 ≤ n ∧ n ≤ 1099511627776 := by
      by_cases h : n < 0
      · rw [dT h] at hb; cases hb
      · rw [dF h, cond_false] at hb
        have := of_decide_eq_false hb
        omega
    simp only [cond_false]
    cases n == 0 with
    | true => rfl
    | false =>
      simp only [cond_false]
      obtain ⟨⟨b1, b2⟩, ⟨b3, b4⟩, b5, b6⟩ := tx_steps h0.1 h0.2
      have l0 := tpc_len n 0
      have l1 := tpc_len (n % (lgN 0 : Int)) 1
      have l2 := tpc_len (n % (lgN 0 : Int) % (lgN 1 : Int)) 2
      have e0 : ∀ (G : Nat → ASt E → Option (List (TV E))) (n : Int) (out : List UInt8), r3text_t0_0 G n out 3600000 60000 1000 1 [104] [109] [115] [109, 115] = r3Sh (lgN 0 : Int) (nmD 0) n out (fun a b => G 0 (r3text_C0_1 a b 3600000 60000 1000 1 [104] [109] [115] [109, 115])) := fun G n out => by kernel_rfl
      have e1 : ∀ (G : Nat → ASt E → Option (List (TV E))) (n : Int) (out : List UInt8), r3text_t0_1 G n out 3600000 60000 1000 1 [104] [109] [115] [109, 115] = r3Sh (lgN 1 : Int) (nmD 1) n out (fun a b => G 0 (r3text_C0_2 a b 3600000 60000 1000 1 [104] [109] [115] [109, 115])) := fun G n out => by kernel_rfl
      have e2 : ∀ (G : Nat → ASt E → Option (List (TV E))) (n : Int) (out : List UInt8), r3text_t0_2 G n out 3600000 60000 1000 1 [104] [109] [115] [109, 115] = r3Sh (lgN 2 : Int) (nmD 2) n out (fun a b => G 0 (r3text_C0_3 a b 3600000 60000 1000 1 [104] [109] [115] [109, 115])) := fun G n out => by kernel_rfl
      have e3 : ∀ (G : Nat → ASt E → Option (List (TV E))) (n : Int) (out : List UInt8), r3text_t0_3 G n out 3600000 60000 1000 1 [104] [109] [115] [109, 115] = r3Sh (lgN 3 : Int) (nmD 3) n out (fun a b => G 0 (r3text_C0_4 a b 3600000 60000 1000 1 [104] [109] [115] [109, 115])) := fun G n out => by kernel_rfl
      refine Gr_of (r3text_s0_0 ?_)
      show r3text_t0_0 _ n [] 3600000 60000 1000 1 [104] [109] [115] [109, 115] = _
      rw [e0, r3Sh_eq 0 h0.1 h0.2 [] (by simp)]
      refine Gr_of (r3text_s0_1 ?_)
      rw [e1, r3Sh_eq 1 b1 b2 _ (by rw [List.nil_append]; omega)]
      refine Gr_of (r3text_s0_2 ?_)
      rw [e2, r3Sh_eq 2 b3 b4 _ (by simp only [List.nil_append, List.length_append]; omega)]
      refine Gr_of (r3text_s0_3 ?_)
      rw [e3, r3Sh_eq 3 b5 b6 _ (by simp only [List.nil_append, List.length_append]; omega)]
      refine Gr_of (r3text_s0_4 ?_)
      show (some [⟨.str, ((([] ++ tpc n 0) ++ tpc (n % (lgN 0 : Int)) 1) ++ tpc (n % (lgN 0 : Int) % (lgN 1 : Int)) 2) ++ tpc (n % (lgN 0 : Int) % (lgN 1 : Int) % (lgN 2 : Int)) 3⟩] : Option (List (TV E))) = some [⟨.str, tpc n 0 ++ (tpc (n % (lgN 0 : Int)) 1 ++ (tpc (n % (lgN 0 : Int) % (lgN 1 : Int)) 2 ++ (tpc (n % (lgN 0 : Int) % (lgN 1 : Int) % (lgN 2 : Int)) 3 ++ [])))⟩]
      simp only [List.nil_append, List.append_nil, List.append_assoc]
def isNx (t : List UInt8) : Prop := t = [] ∨ ∃ c r, t = c :: r ∧ isD c = true
theorem pfD_app : ∀ (s t : List UInt8), s.all isD = true → (∀ c r, t = c :: r → isD c = false) → pfD (s ++ t) = s.length
  | [], [], _, _ => rfl
  | [], c :: t, _, h => by
    show pfD (c :: t) = 0
    rw [pfD, h c t rfl]; rfl
  | c :: s, t, h, h2 => by
    rw [List.all_cons, Bool.and_eq_true] at h
    show pfD (c :: (s ++ t)) = _
    rw [pfD, h.1, cond_true, pfD_app s t h.2 h2, List.length_cons]
theorem nm_head (u : Nat) : ∃ c r, nmD u = c :: r ∧ isD c = false := by
  unfold nmD
  split <;> exact ⟨_, _, rfl, by decide⟩
theorem gU_nm {u : Nat} (hu : u ≤ 3) {t : List UInt8} (ht : isNx t) : gU (nmD u ++ t) = (u, (nmD u).length) := by
  have : u = 0 ∨ u = 1 ∨ u = 2 ∨ u = 3 := by omega
  rcases this with rfl | rfl | rfl | rfl
  · rfl
  · rcases ht with rfl | ⟨c, r, rfl, hc⟩
    · rfl
    · have := isD_iff.1 hc
      show (bif (((c.toNat : Nat) : Int) == 115) then ((3, 2) : Nat × Nat) else (1, 1)) = _
      rw [eqF (by omega)]; rfl
  · rfl
  · rfl
theorem txt_group {k : Int} (h0 : 0 ≤ k) (h1 : k < 9223372036854775808) {u : Nat} (hu : u ≤ 3) {t : List UInt8} (ht : isNx t) :
    gH (textV k ++ (nmD u ++ t)) = textV k ∧ gX (textV k ++ (nmD u ++ t)) = (u, (nmD u).length) ∧ gR (textV k ++ (nmD u ++ t)) = t := by
  obtain ⟨_, _, q3⟩ := text_whole h0 h1
  obtain ⟨c, r, e, hc⟩ := nm_head u
  have hp : pfD (textV k ++ (nmD u ++ t)) = (textV k).length := pfD_app _ _ q3 fun c' r' h => by
    rw [e] at h
    cases h
    exact hc
  have hx : gX (textV k ++ (nmD u ++ t)) = (u, (nmD u).length) := by
    unfold gX
    rw [hp, List.drop_left, gU_nm hu ht]
  refine ⟨by unfold gH; rw [hp, List.take_left], hx, ?_⟩
  unfold gR
  rw [hp, hx, ← List.append_assoc]
  have : (textV k).length + (nmD u).length = (textV k ++ nmD u).length := by rw [List.length_append]
  rw [this, List.drop_left]
theorem tpc_pos {n : Int} {i : Nat} (h : 0 < n / (lgN i : Int)) : tpc n i = textV (n / (lgN i : Int)) ++ nmD i := by unfold tpc; rw [dT h]; rfl
theorem tpc_zero {n : Int} {i : Nat} (h : ¬ 0 < n / (lgN i : Int)) : tpc n i = [] := by unfold tpc; rw [dF h]; rfl
theorem txF_nx : ∀ (k i : Nat) (n : Int), 0 ≤ n → n ≤ 1099511627776 → isNx (txF k i n)
  | 0, _, _, _, _ => .inl rfl
  | k + 1, i, n, h0, h1 => by
    obtain ⟨a1, a2, a3, a4, a5, a6, a7⟩ := lg_facts i h0 h1
    unfold txF
    by_cases hk : 0 < n / (lgN i : Int)
    · rw [tpc_pos hk]
      obtain ⟨q1, _, q3⟩ := text_whole a2 (by omega)
      cases ht : textV (n / (lgN i : Int)) with
      | nil => rw [ht] at q1; cases q1
      | cons c r =>
        rw [ht, List.all_cons, Bool.and_eq_true] at q3
        exact .inr ⟨c, _, rfl, q3.1⟩
    · rw [tpc_zero hk]
      exact txF_nx k (i + 1) _ a5 (by omega)
theorem dSum_txF : ∀ (k i : Nat) (n : Int) (f : Nat) (last : Int), k + i = 4 → 0 ≤ n → n ≤ 1099511627776 → last < i → (0 ≤ last ∨ 0 < n) → (txF k i n).length < f → (i = 4 → n = 0) → dSum f last (txF k i n) = some n.toNat
  | 0, i, n, f, last, h1, h2, h3, h4, h5, h6, h7 => by
    have hn := h7 (by omega)
    subst hn
    cases f with
    | zero => simp [txF] at h6
    | succ f =>
      show dSum (f + 1) last [] = _
      rw [dSum, show (([] : List UInt8) == []) = true from rfl, cond_true, dF (by omega)]; rfl
  | k + 1, i, n, f, last, h1, h2, h3, h4, h5, h6, h7 => by
    obtain ⟨a1, a2, a3, a4, a5, a6, a7⟩ := lg_facts i h2 h3
    have hi4 : i + 1 = 4 → n % (lgN i : Int) = 0 := fun e => by
      obtain rfl : i = 3 := by omega
      show n % 1 = 0
      omega
    unfold txF at h6 ⊢
    by_cases hk : 0 < n / (lgN i : Int)
    · rw [tpc_pos hk] at h6 ⊢
      have hL := lg_ge i
      obtain ⟨g1, g2, g3⟩ := txt_group (t := txF k (i + 1) (n % (lgN i : Int))) a2 (show n / (lgN i : Int) < 9223372036854775808 by omega) (show i ≤ 3 by omega) (txF_nx k (i + 1) _ a5 (by omega))
      obtain ⟨q1, q2, q3⟩ := text_whole a2 (show n / (lgN i : Int) < 9223372036854775808 by omega)
      rw [List.append_assoc] at h6 ⊢
      have hne : textV (n / (lgN i : Int)) ++ (nmD i ++ txF k (i + 1) (n % (lgN i : Int))) ≠ [] := fun e => by
        have := congrArg List.length e
        obtain ⟨c, r, e2, _⟩ := nm_head i
        rw [e2] at this
        simp at this
      have hne2 : (textV (n / (lgN i : Int)) ++ (nmD i ++ txF k (i + 1) (n % (lgN i : Int))) == []) = false := by simpa using hne
      have h48 : (textV (n / (lgN i : Int)) == [48]) = false := by
        rw [← whole_zero q1]
        simp only [beq_eq_false_iff_ne]
        omega
      have hlen : ((nmD i).length == 0) = false := by
        obtain ⟨c, r, e2, _⟩ := nm_head i
        rw [e2]; rfl
      have hbad : gBad last (textV (n / (lgN i : Int)) ++ (nmD i ++ txF k (i + 1) (n % (lgN i : Int)))) = false := by
        unfold gBad
        rw [g1, g2, g3, hlen, q1, h48, dF (show ¬ (i : Int) ≤ last by omega)]
        rfl
      cases f with
      | zero => omega
      | succ f =>
        have hlt : (txF k (i + 1) (n % (lgN i : Int))).length < f := by
          rw [List.length_append, List.length_append] at h6
          have : (nmD i).length ≠ 0 := by simpa using hlen
          omega
        have ih := dSum_txF k (i + 1) (n % (lgN i : Int)) f (i : Int) (by omega) a5 (by omega) (by omega) (.inl (by omega)) hlt hi4
        rw [dSum, hne2, hbad, cond_false, cond_false, g1, g2, g3, ih, Option.map_some]
        have : ((valN (textV (n / (lgN i : Int))) 0 * lgN i : Nat) : Int) = n - n % (lgN i : Int) := by rw [Int.natCast_mul, q2, a4]
        congr 1
        show valN (textV (n / (lgN i : Int))) 0 * lgN i + (n % (lgN i : Int)).toNat = n.toNat
        omega
    · rw [tpc_zero hk] at h6 ⊢
      have hz : n % (lgN i : Int) = n := zero_mod i (by omega)
      rw [hz] at h6 hi4 ⊢
      exact dSum_txF k (i + 1) n f last (by omega) h2 h3 (by omega) h5 h6 hi4
theorem dur_text {n : Int} (h0 : 0 ≤ n) (h1 : n ≤ 1099511627776) : durP (dtV n) = (n, 0) := by
  unfold dtV
  rw [dF (show ¬ n < 0 by omega), dF (show ¬ (1099511627776 : Int) < n by omega), cond_false, cond_false]
  by_cases hz : n = 0
  · subst hz
    decide
  · rw [eqF hz, cond_false]
    unfold durP
    rw [dSum_txF 4 0 n _ (-1) rfl h0 h1 (by decide) (.inr (by omega)) (Nat.lt_succ_self _) (fun h => by cases h)]
    simp only [dFin]
    rw [dF (by omega), cond_false]
    congr 1
    omega
theorem durV_bd (s : List UInt8) : 0 ≤ durV s ∧ durV s ≤ 1099511627776 := by
  unfold durV durP
  cases dSum (s.length + 1) (-1) s with
  | none => exact ⟨by decide, by decide⟩
  | some t =>
    simp only [dFin]
    by_cases h : (1099511627776 : Int) < (t : Int)
    · rw [dT h, cond_true]; exact ⟨Int.le_refl _, by decide⟩
    · rw [dF h]; exact ⟨by simp, by simp only [cond_false]; omega⟩
end Go.Proofs.YtgniedpgdjmfpaaGreatDoor.Rf
namespace Go.Proofs.YtgniedpgdjmfpaaGreatDoor.Rf
open Go Go.RowKit Go.Sort Go.Proofs.YtgniedpgdjmfpaaGreatDoor.Mir
structure Iv (ψ : List UInt8 → Prop) (φ : Node → Prop) (o : Node) : Prop where
  kind : o.kind = 0 ∨ o.kind = 3
  none_ : o.kind = 0 → o.keys = []
  text : o.text = []
  len : o.keys.length = o.kids.length
  nd : o.keys.Nodup
  key : ∀ k ∈ o.keys, ψ k
  kid : ∀ y ∈ o.kids, φ y
section
variable {ψ : List UInt8 → Prop} {φ : Node → Prop}
theorem Iv.nil : Iv ψ φ zn := ⟨.inl rfl, fun _ => rfl, rfl, rfl, List.nodup_nil, (fun k h => by cases h), (fun y h => by cases h)⟩
theorem withV_is {o : Node} (hk : o.kind = 0 ∨ o.kind = 3) (k : List UInt8) (v : Node) : withV o k v = ⟨3, [], o.keys ++ newK (inV o.keys k) k, wKids k v o.keys o.kids ++ newV (inV o.keys k) v⟩ := by
  have hc : (bif o.kind != 0 then o.kind != 3 else false) = false := by rcases hk with e | e <;> rw [e] <;> rfl
  unfold withV
  rw [hc]
  rfl
theorem inV_no {l : List (List UInt8)} {k : List UInt8} (h : k ∉ l) : inV l k = false := by
  cases hb : inV l k with
  | false => rfl
  | true => exact absurd (inV_iff.1 hb) h
theorem withV_new {o : Node} (hk : o.kind = 0 ∨ o.kind = 3) (hl : o.keys.length = o.kids.length) {k : List UInt8} (hn : k ∉ o.keys) (v : Node) : withV o k v = ⟨3, [], o.keys ++ [k], o.kids ++ [v]⟩ := by
  rw [withV_is hk, inV_no hn, wKids_id k v o.keys o.kids hl hn]
  rfl
theorem Iv.put {o : Node} (h : Iv ψ φ o) {k : List UInt8} {v : Node} (hk : ψ k) (hv : φ v) : Iv ψ φ (withV o k v) := by
  obtain ⟨h1, h2, h3, h4⟩ := withV_fit (k := k) (v := v) h.kind h.len
  have e := withV_is h.kind k v
  have ek : (withV o k v).keys = o.keys ++ newK (inV o.keys k) k := by rw [e]
  refine ⟨.inr h1, (fun e => by rw [h1] at e; cases e), (by rw [e]), h2, ?_, ?_, ?_⟩
  · rw [ek]
    by_cases hm : k ∈ o.keys
    · rw [inV_iff.2 hm]; simpa [newK] using h.nd
    · rw [inV_no hm]
      show (o.keys ++ [k]).Nodup
      rw [List.nodup_append]
      exact ⟨h.nd, by simp, fun a ha b hb => by rw [List.mem_singleton.1 hb]; intro e; exact hm (e ▸ ha)⟩
  · rw [ek]
    intro q hq
    rcases List.mem_append.1 hq with hq | hq
    · exact h.key q hq
    · cases hb : inV o.keys k with
      | true => rw [hb] at hq; cases hq
      | false => rw [hb] at hq; rw [List.mem_singleton.1 hq]; exact hk
  · intro y hy
    rcases h4 y hy with rfl | hy
    · exact hv
    · exact h.kid y hy
theorem lk_there {k : List UInt8} : ∀ {ks : List (List UInt8)} {vs : List Node}, ks.length = vs.length → (lk ks vs k).isSome = inV ks k
  | [], [], _ => rfl
  | a :: t, x :: w, h => by
    unfold lk
    by_cases e : k = a
    · subst e; rw [if_pos rfl]; simp [inV]
    · have : (a == k) = false := by simpa using fun h : a = k => e h.symm
      rw [if_neg e, lk_there (by simpa using h)]
      simp [inV, this]
  | [], _ :: _, h => by simp at h
  | _ :: _, [], h => by simp at h
theorem Iv.there {o : Node} (h : Iv ψ φ o) (k : List UInt8) : getB o k = inV o.keys k := by
  unfold getB get
  rcases h.kind with e | e
  · rw [if_neg (by rw [e]; decide), h.none_ e]; rfl
  · rw [if_pos e]; exact lk_there h.len
theorem Iv.with_ {o : Node} (h : Iv ψ φ o) (k : List UInt8) (v : Node) : withP o k v = withV o k v := withP_eq h.kind h.len h.nd
theorem Iv.leafs {o : Node} (h : Iv ψ φ o) (hφ : ∀ y, φ y → wg 10000 11 y = true ∧ kd 11 y = true) (h32 : o.keys.length ≤ 32) : wg 10000 12 (mapN o) = true ∧ kd 12 (mapN o) = true :=
  ⟨wg_iff.2 ⟨by show o.keys.length ≤ 10000; omega, by have := h.len; show o.kids.length ≤ 10000; omega, fun _ => h.len, fun y hy => (hφ y (h.kid y hy)).1⟩,
   kd_iff.2 ⟨⟨⟨show (0 : Int) ≤ 3 by decide, show (3 : Int) ≤ 3 by decide⟩, fun e => absurd rfl e⟩, fun e => absurd (show (3 : Int) < 2 from e) (by decide), fun y hy => (hφ y (h.kid y hy)).2⟩⟩
theorem Iv.dn {o : Node} (h : Iv ψ φ o) (hφ : ∀ y, φ y → wg 10000 11 y = true ∧ kd 11 y = true) : dnV o false = doneV o true ∧ dnE o false = (bif doneB o true then 0 else 10) := by
  unfold dnV dnE doneV doneB failB
  simp only [cond_false, Bool.not_true]
  by_cases h32 : (32 : Int) < (o.keys.length : Int)
  · rw [dT h32]; exact ⟨rfl, rfl⟩
  · obtain ⟨hw, hk⟩ := h.leafs hφ (by omega)
    rw [dF h32]
    exact ⟨sortP_eq 12 _ hw hk, rfl⟩
structure Sf (ψ : List UInt8 → Prop) (φ : Node → Prop) (a : Node) : Prop where
  kind : a.kind = 3
  text : a.text = []
  ss : Pl.SS a.keys
  len : a.keys.length = a.kids.length
  le : a.keys.length ≤ 32
  key : ∀ k ∈ a.keys, ψ k
  kid : ∀ y ∈ a.kids, φ y
theorem ss_nodup {l : List (List UInt8)} (h : Pl.SS l) : l.Nodup := List.Pairwise.imp (fun {a b} (h : a < b) (e : a = b) => Pl.s_irrefl b (e ▸ h)) h
theorem Iv.form {o : Node} (h : Iv ψ φ o) (hs : ∀ y, φ y → sortN 11 y = y) (h32 : o.keys.length ≤ 32) : Sf ψ φ (sortN 12 (mapN o)) := by
  have e : sortN 12 (mapN o) = ⟨3, o.text, Pl.sortD o.keys, (Pl.sortD o.keys).map fun k => sortN 11 (getV (mapN o) k)⟩ := rfl
  rw [e]
  refine ⟨rfl, h.text, (Pl.sortD_spec o.keys).1, by simp, Nat.le_trans (Pl.sortD_len _) h32, fun k hk => h.key k (Pl.sortD_mem.1 hk), fun y hy => ?_⟩
  obtain ⟨k, hk, rfl⟩ := List.mem_map.1 hy
  have hg : getB (mapN o) k = true := by
    show (get (mapN o) k).isSome = true
    have : get (mapN o) k = lk o.keys o.kids k := if_pos rfl
    rw [this, lk_there h.len]
    exact inV_iff.2 (Pl.sortD_mem.1 hk)
  have := h.kid _ (getV_mem (a := mapN o) hg)
  rw [hs _ this]
  exact this
theorem lk_back : ∀ (ks : List (List UInt8)) (vs : List Node), ks.length = vs.length → ks.Nodup → ks.map (fun k => (lk ks vs k).getD zn) = vs
  | [], [], _, _ => rfl
  | a :: t, x :: w, h, hn => by
    have hn' := List.nodup_cons.1 hn
    rw [List.map_cons]
    congr 1
    · unfold lk; rw [if_pos rfl]; rfl
    · rw [← lk_back t w (by simpa using h) hn'.2]
      refine List.map_congr_left fun k hk => ?_
      have : k ≠ a := fun e => hn'.1 (e ▸ hk)
      rw [lk_back t w (by simpa using h) hn'.2]
      conv => lhs; unfold lk
      rw [if_neg this]
  | [], _ :: _, h, _ => by simp at h
  | _ :: _, [], h, _ => by simp at h
theorem Sf.sorted {a : Node} (h : Sf ψ φ a) (hs : ∀ y, φ y → sortN 11 y = y) : sortN 12 a = a := by
  have hk : Pl.sortD a.keys = a.keys := Pl.sortD_eq h.ss fun _ => Iff.rfl
  have e : sortN 12 a = ⟨a.kind, a.text, Pl.sortD a.keys, (Pl.sortD a.keys).map fun k => sortN 11 (getV a k)⟩ := by
    show (bif a.kind == 3 then _ else _) = _
    rw [eqT h.kind]; rfl
  rw [e, hk]
  have e2 : (a.keys.map fun k => sortN 11 (getV a k)) = a.keys.map fun k => (lk a.keys a.kids k).getD zn := by
    refine List.map_congr_left fun k hk => ?_
    have hg : getB a k = true := by
      show (get a k).isSome = true
      rw [show get a k = lk a.keys a.kids k from if_pos h.kind, lk_there h.len]
      exact inV_iff.2 hk
    rw [hs _ (h.kid _ (getV_mem hg))]
    show (get a k).getD zn = _
    rw [show get a k = lk a.keys a.kids k from if_pos h.kind]
  rw [e2, lk_back _ _ h.len (ss_nodup h.ss)]
  exact node_eta a
theorem Sf.wg_ {a : Node} (h : Sf ψ φ a) (hφ : ∀ y, φ y → wg 10000 11 y = true ∧ kd 11 y = true) : wg 10000 12 a = true :=
  wg_iff.2 ⟨by have := h.le; omega, by have := h.le; have := h.len; omega, fun _ => h.len, fun y hy => (hφ y (h.kid y hy)).1⟩
theorem done_form {a o' : Node} (h : Sf ψ φ a) (hs : ∀ y, φ y → sortN 11 y = y) (h1 : o'.text = []) (h2 : o'.keys = a.keys) (h3 : o'.kids = a.kids) : doneV o' true = a ∧ doneB o' true = true := by
  have hm : mapN o' = a := by
    show (⟨3, o'.text, o'.keys, o'.kids⟩ : Node) = a
    rw [h1, h2, h3, ← h.text, ← h.kind]
    exact node_eta a
  have hb : doneB o' true = true := by
    unfold doneB
    rw [h2, Bool.not_true, cond_false, dF (show ¬ (32 : Int) < (a.keys.length : Int) by have := h.le; omega)]
    rfl
  unfold doneV
  rw [hb, hm, h.sorted hs]
  exact ⟨rfl, rfl⟩
end
theorem rtxB_eq (n : Node) : rtxB n = txsB n := by
  unfold rtxB txsB rtx0
  cases hk : n.kind == 2 with
  | false => rw [show (n.kind != 2) = true from by rw [bne, hk]; rfl]; simp
  | true =>
    rw [show (n.kind != 2) = false from by rw [bne, hk]; rfl]
    simp only [cond_false, cond_true]
    by_cases h : (32 : Int) < (n.kids.length : Int)
    · rw [dT h, dF (by omega)]; simp
    · rw [dF h, dT (by omega)]; simp
theorem txs_rtx : ∀ (l : List Node) (t : List (List UInt8)), txsV l = some t → rtxV l = t
  | [], t, h => by cases h; rfl
  | x :: r, t, h => by
    unfold txsV at h
    unfold rtxV
    cases hb : x.kind != 1 with
    | true => rw [hb] at h; cases h
    | false =>
      rw [hb, cond_false] at h
      cases hr : txsV r with
      | none => rw [hr] at h; cases h
      | some q => rw [hr] at h; cases h; rw [txs_rtx r q hr]; rfl
theorem rtxL_eq {n : Node} (h : txsB n = true) : rtxL n = txsL n := by
  have h' := rtxB_eq n ▸ h
  unfold rtxB at h'
  unfold rtxL txsL
  cases h0 : rtx0 n with
  | true => rw [h0] at h'; cases h'
  | false =>
    rw [h0, cond_false] at h'
    cases ht : txsV n.kids with
    | none => rw [ht] at h'; cases h'
    | some t => rw [cond_false, txs_rtx _ _ ht]; rfl
theorem txsV_txt {B : Nat} : ∀ (l : List Node) (t : List (List UInt8)), txsV l = some t → (∀ y ∈ l, y.text.length ≤ B) → ∀ s ∈ t, s.length ≤ B
  | [], t, h, _, s, hs => by cases h; cases hs
  | x :: r, t, h, hb, s, hs => by
    unfold txsV at h
    cases hk : x.kind != 1 with
    | true => rw [hk] at h; cases h
    | false =>
      rw [hk, cond_false] at h
      cases hr : txsV r with
      | none => rw [hr] at h; cases h
      | some q =>
        rw [hr] at h
        cases h
        rcases List.mem_cons.1 hs with rfl | hs
        · exact hb x List.mem_cons_self
        · exact txsV_txt r q hr (fun y hy => hb y (List.mem_cons_of_mem _ hy)) s hs
theorem txsL_txt {B : Nat} {n : Node} (h : ∀ y ∈ n.kids, y.text.length ≤ B) : ∀ s ∈ txsL n, s.length ≤ B := by
  unfold txsL
  cases ht : txsV n.kids with
  | none => intro s hs; cases hs
  | some t => exact txsV_txt _ _ ht h
section
variable {ψ : List UInt8 → Prop}
end
end Go.Proofs.YtgniedpgdjmfpaaGreatDoor.Rf
namespace Go.Proofs.YtgniedpgdjmfpaaGreatDoor.Rf
open Go Go.RowKit Go.Sort Go.Proofs.YtgniedpgdjmfpaaGreatDoor.Mir
def disK : List UInt8 := [100, 105, 115, 97, 98, 108, 101]
def tstK : List UInt8 := [116, 101, 115, 116]
def intK : List UInt8 := [105, 110, 116, 101, 114, 118, 97, 108]
def stpK : List UInt8 := [115, 116, 97, 114, 116, 95, 112, 101, 114, 105, 111, 100]
def retK : List UInt8 := [114, 101, 116, 114, 105, 101, 115]
def oneS : List UInt8 := [49, 115]
def zerS : List UInt8 := [48]
def tru : List UInt8 := [116, 114, 117, 101]
def fls : List UInt8 := [102, 97, 108, 115, 101]
def nonS : List UInt8 := [78, 79, 78, 69]
def shlS : List UInt8 := [67, 77, 68, 45, 83, 72, 69, 76, 76]
def cmdS : List UInt8 := [67, 77, 68]
def tsX (n : Node) : Bool := bif !(txsB n) then true else ((txsL n).length : Int) == 0
def tsK (n : Node) : Int := bif n.kind == 1 then 1 else bif tsX n then 0 else bif (txsL n).getD 0 [] == nonS then (bif ((txsL n).length : Int) == 1 then 2 else 0)
  else bif (txsL n).getD 0 [] == shlS then (bif ((txsL n).length : Int) == 2 then 1 else 0) else bif (txsL n).getD 0 [] == cmdS then (bif decide ((1 : Int) < ((txsL n).length : Int)) then 1 else 0) else 0
def tsS (n : Node) : List UInt8 := bif n.kind == 1 then n.text else bif tsX n then [] else bif (txsL n).getD 0 [] == nonS then []
  else bif (txsL n).getD 0 [] == shlS then (bif ((txsL n).length : Int) == 2 then (txsL n).getD 1 [] else []) else bif (txsL n).getD 0 [] == cmdS then wjV ((txsL n).drop 1) else []
def tsN (n : Node) : Bool := bif n.kind == 1 then false else bif tsX n then false else (txsL n).getD 0 [] == nonS
def tsR (n : Node) : Bool := !(tsK n == 0)
def okTs (n : Node) : Bool := decide (n.kids.length ≤ 1000) && (txsL n).all fun s => decide (s.length ≤ 10000)
theorem okTs_iff {n : Node} : okTs n = true ↔ n.kids.length ≤ 1000 ∧ ∀ s ∈ txsL n, s.length ≤ 10000 := by simp [okTs]
noncomputable def ntest_W : FnW E := fn13 (E := E) .api_Node .str .bool .bool okTs tsS tsN tsR
def ntest_id : FuncId := 78
noncomputable def ntest_O : Oracle E := orac [(66, ntexts_W), (130, wjoin_W)] [] [] []
noncomputable def ntest_H : Hint E := Hint.mk [] [] [] [] []
noncomputable def ntest_t (_G : Nat → ASt E → Option (List (TV E))) (x0 : Node) : Option (List (TV E)) :=
  bif (x0.kind == (1 : Int)) then some [⟨.str, x0.text⟩, ⟨.bool, false⟩, ⟨.bool, true⟩] else (bif (okTx ⟨x0.kind, x0.text, x0.keys, x0.kids⟩) then (bif (bif (!(txsB ⟨x0.kind, x0.text, x0.keys, x0.kids⟩)) then true else (((txsL ⟨x0.kind, x0.text, x0.keys, x0.kids⟩).length : Int) == (0 : Int))) then some [⟨.str, ([] : List UInt8)⟩, ⟨.bool, false⟩, ⟨.bool, false⟩] else (bif (decide ((0 : Int) ≤ (0 : Int)) && decide ((0 : Int) < ((txsL ⟨x0.kind, x0.text, x0.keys, x0.kids⟩).length : Int))) then (bif ((List.getD (txsL ⟨x0.kind, x0.text, x0.keys, x0.kids⟩) (Int.toNat 0) (dflt .str)) == ([78, 79, 78, 69] : List UInt8)) then some [⟨.str, ([] : List UInt8)⟩, ⟨.bool, true⟩, ⟨.bool, (((txsL ⟨x0.kind, x0.text, x0.keys, x0.kids⟩).length : Int) == (1 : Int))⟩] else (bif ((List.getD (txsL ⟨x0.kind, x0.text, x0.keys, x0.kids⟩) (Int.toNat 0) (dflt .str)) == ([67, 77, 68, 45, 83, 72, 69, 76, 76] : List UInt8)) then (bif (((txsL ⟨x0.kind, x0.text, x0.keys, x0.kids⟩).length : Int) == (2 : Int)) then (bif (decide ((0 : Int) ≤ (1 : Int)) && decide ((1 : Int) < ((txsL ⟨x0.kind, x0.text, x0.keys, x0.kids⟩).length : Int))) then some [⟨.str, (List.getD (txsL ⟨x0.kind, x0.text, x0.keys, x0.kids⟩) (Int.toNat 1) (dflt .str))⟩, ⟨.bool, false⟩, ⟨.bool, true⟩] else none) else some [⟨.str, ([] : List UInt8)⟩, ⟨.bool, false⟩, ⟨.bool, false⟩]) else (bif ((List.getD (txsL ⟨x0.kind, x0.text, x0.keys, x0.kids⟩) (Int.toNat 0) (dflt .str)) == ([67, 77, 68] : List UInt8)) then (bif (decide ((0 : Int) ≤ (1 : Int)) && decide ((1 : Int) ≤ ((txsL ⟨x0.kind, x0.text, x0.keys, x0.kids⟩).length : Int)) && decide (((txsL ⟨x0.kind, x0.text, x0.keys, x0.kids⟩).length : Int) ≤ ((txsL ⟨x0.kind, x0.text, x0.keys, x0.kids⟩).length : Int))) then (bif (okWj (List.take (Int.toNat ((txsL ⟨x0.kind, x0.text, x0.keys, x0.kids⟩).length : Int) - Int.toNat 1) (List.drop (Int.toNat 1) (txsL ⟨x0.kind, x0.text, x0.keys, x0.kids⟩)))) then some [⟨.str, (wjV (List.take (Int.toNat ((txsL ⟨x0.kind, x0.text, x0.keys, x0.kids⟩).length : Int) - Int.toNat 1) (List.drop (Int.toNat 1) (txsL ⟨x0.kind, x0.text, x0.keys, x0.kids⟩))))⟩, ⟨.bool, false⟩, ⟨.bool, (decide ((1 : Int) < ((txsL ⟨x0.kind, x0.text, x0.keys, x0.kids⟩).length : Int)))⟩] else none) else none) else some [⟨.str, ([] : List UInt8)⟩, ⟨.bool, false⟩, ⟨.bool, false⟩]))) else none)) else none)
theorem ntest_e (G : Nat → ASt E → Option (List (TV E))) (x0 : Node) : runE ntest_O ntest_H G Tryz.f78 [⟨.api_Node, x0⟩] = ntest_t G x0 := by kernel_rfl
theorem ntest_f : Tryz.prog.funcs[78]? = some Tryz.f78 := by kernel_rfl
theorem ntest_n : (Tryz.f78.name == "runtime.NumGoroutine") = false := by kernel_rfl
theorem ntest_b : Tryz.f78.body.isNone = false := by kernel_rfl
theorem ntest_hO : OracleOk E ntest_O := orac_ok (.cons ntexts_ok (.cons wjoin_ok .nil)) .nil .nil .nil
theorem ntest_ok_of (h : ∀ (x0 : Node), okTs x0 = true → ntest_t (Gr E Tryz.f78 [⟨.str, tsS x0⟩, ⟨.bool, tsN x0⟩, ⟨.bool, tsR x0⟩]) x0 = some [⟨.str, tsS x0⟩, ⟨.bool, tsN x0⟩, ⟨.bool, tsR x0⟩]) : FnOk E ntest_id ntest_W := fn13_ok ntest_hO mix ntest_f ntest_n ntest_b (fun x0 hk => (ntest_e _ x0).trans (h x0 hk))
theorem ntest_ok : FnOk E ntest_id ntest_W := ntest_ok_of fun n hk => by
  obtain ⟨h1, h2⟩ := okTs_iff.1 hk
  have o1 : okTx n = true := decide_eq_true (by omega)
  have hl := txsL_len n
  have o2 : okWj ((txsL n).drop 1) = true := okWj_iff.2 ⟨by rw [List.length_drop]; omega, fun s hs => h2 s (List.mem_of_mem_drop hs)⟩
  have ht : List.take ((txsL n).length - 1) (List.drop 1 (txsL n)) = (txsL n).drop 1 := List.take_of_length_le (by rw [List.length_drop]; exact Nat.le_refl _)
  simp only [ntest_t, node_eta, o1, cond_true, show Int.toNat (0 : Int) = 0 from rfl, show Int.toNat (1 : Int) = 1 from rfl, Int.toNat_natCast, ht, o2, dle (Nat.le_refl (txsL n).length), show decide ((0 : Int) ≤ (0 : Int)) = true from rfl, show decide ((0 : Int) ≤ (1 : Int)) = true from rfl, Bool.true_and, Bool.and_true]
  unfold tsS tsN tsR tsK
  change (bif n.kind == 1 then _ else (bif tsX n then _ else _)) = _
  cases n.kind == 1 with
  | true => rfl
  | false =>
    cases hx : tsX n with
    | true => rfl
    | false =>
      have hpos : 0 < (txsL n).length := by
        unfold tsX at hx
        cases hb : txsB n with
        | false => rw [hb] at hx; cases hx
        | true =>
          rw [hb] at hx
          have hx : (((txsL n).length : Int) == 0) = false := hx
          have : ((txsL n).length : Int) ≠ 0 := by simpa using hx
          omega
      rw [dT (show (0 : Int) < ((txsL n).length : Int) by omega), dT (show (1 : Int) ≤ ((txsL n).length : Int) by omega)]
      simp only [cond_true, cond_false]
      change (bif (txsL n).getD 0 [] == nonS then _ else (bif (txsL n).getD 0 [] == shlS then _ else (bif (txsL n).getD 0 [] == cmdS then _ else _))) = _
      cases (txsL n).getD 0 [] == nonS with
      | true => simp only [cond_true]; cases (((txsL n).length : Int) == 1) <;> rfl
      | false =>
        cases (txsL n).getD 0 [] == shlS with
        | true =>
          simp only [cond_true, cond_false]
          cases h2 : (((txsL n).length : Int) == 2) with
          | true =>
            have := eq_of_beq h2
            rw [dT (show (1 : Int) < ((txsL n).length : Int) by omega)]
            rfl
          | false => rfl
        | false =>
          cases (txsL n).getD 0 [] == cmdS with
          | true => simp only [cond_true, cond_false]; cases decide ((1 : Int) < ((txsL n).length : Int)) <;> rfl
          | false => rfl
def tfV (b : Bool) : List UInt8 := bif b then [116, 114, 117, 101] else [102, 97, 108, 115, 101]
def saidV (b : Bool) : Node := ⟨1, tfV b, [], []⟩
noncomputable def nsaid_W : FnW E := fn1 (E := E) .bool .api_Node (fun _ => true) saidV
def nsaid_id : FuncId := 81
noncomputable def nsaid_O : Oracle E := orac [(62, ntext_W)] [] [] []
noncomputable def nsaid_H : Hint E := Hint.mk [] [] [] [] []
noncomputable def nsaid_t (_G : Nat → ASt E → Option (List (TV E))) (x0 : Bool) : Option (List (TV E)) :=
  bif x0 then some [⟨.api_Node, (⟨1, [116, 114, 117, 101], [], []⟩ : Node)⟩] else some [⟨.api_Node, (⟨1, [102, 97, 108, 115, 101], [], []⟩ : Node)⟩]
theorem nsaid_e (G : Nat → ASt E → Option (List (TV E))) (x0 : Bool) : runE nsaid_O nsaid_H G Tryz.f81 [⟨.bool, x0⟩] = nsaid_t G x0 := by kernel_rfl
theorem nsaid_f : Tryz.prog.funcs[81]? = some Tryz.f81 := by kernel_rfl
theorem nsaid_n : (Tryz.f81.name == "runtime.NumGoroutine") = false := by kernel_rfl
theorem nsaid_b : Tryz.f81.body.isNone = false := by kernel_rfl
theorem nsaid_hO : OracleOk E nsaid_O := orac_ok (.cons ntext_ok .nil) .nil .nil .nil
theorem nsaid_ok_of (h : ∀ (x0 : Bool), nsaid_t (Gr E Tryz.f81 [⟨.api_Node, saidV x0⟩]) x0 = some [⟨.api_Node, saidV x0⟩]) : FnOk E nsaid_id nsaid_W := fn1_ok nsaid_hO mix nsaid_f nsaid_n nsaid_b (fun x0 _ => (nsaid_e _ x0).trans (h x0))
theorem nsaid_ok : FnOk E nsaid_id nsaid_W := nsaid_ok_of fun b => by cases b <;> rfl
def fldV (n : Node) (k or_ : List UInt8) : List UInt8 := bif !(getB n k) then or_ else (getV n k).text
def fldB (n : Node) (k _ : List UInt8) : Bool := bif !(getB n k) then true else (getV n k).kind == 1
def ntf (s : List UInt8) : Bool := !(s == tru) && !(s == fls)
def b2 (b : Bool) : Int := bif b then 1 else 0
def hTst (n o : Node) : Node := bif getB n tstK then withP o tstK (txt1 (tsS (getV n tstK))) else o
def hPut (n : Node) (k : List UInt8) (o : Node) : Node := bif getB n k then withP o k (txt1 (dtV (durV (fldV n k oneS)))) else o
def hCnt (n : Node) : Int := cntV (fldV n retK zerS) 65536
def hRet (n o : Node) : Node := bif decide (0 < hCnt n) then withP o retK (txt1 (textV (hCnt n))) else o
def hO (n : Node) : Node := hRet n (hPut n stpK (hPut n intK (hTst n zn)))
def hOff (n : Node) : Bool := bif fldV n disK fls == tru then true else (bif getB n tstK then tsN (getV n tstK) else false)
def bdD (n : Node) : Bool := bif (bif n.kind != 3 then true else !(fldB n disK [])) then true else ntf (fldV n disK fls)
def bdT (n : Node) (b : Bool) : Bool := bif b then true else (bif getB n tstK then !(tsR (getV n tstK)) else false)
def bdS (n : Node) (k : List UInt8) (b : Bool) : Bool := bif (bif b then true else !(fldB n k [])) then true else durE (fldV n k oneS) != 0
def bdI (n : Node) (b : Bool) : Bool := bif bdS n intK b then true else durV (fldV n intK oneS) == 0
def bdR (n : Node) (b : Bool) : Bool := bif (bif (bif (bif b then true else !(fldB n retK [])) then true else cntE (fldV n retK zerS) 65536 != 0) then true else (bif getB n retK then hCnt n == 0 else false)) then true else decide ((10 : Int) < hCnt n)
def hBad (n : Node) : Bool := bdR n (bdS n stpK (bdI n (bdT n (bdD n))))
def hLf (n : Node) : Int := ((((n.keys.length : Int) - b2 (getB n disK)) - b2 (getB n tstK)) - b2 (getB n intK)) - b2 (getB n stpK) - b2 (getB n retK)
def hFin (off : Bool) (o : Node) (bad : Bool) : Node × Int := bif bad then (zn, 10) else (dnV (bif off then withP zn disK (saidV true) else o) false, dnE (bif off then withP zn disK (saidV true) else o) false)
def hP (n : Node) : Node × Int := hFin (hOff n) (hO n) (hBad n || !(hLf n == 0))
def hV (n : Node) : Node := (hP n).1
def hE (n : Node) : Int := (hP n).2
def okH (n : Node) : Bool := fit n && decide ((fldV n intK oneS).length ≤ 1000000) && decide ((fldV n stpK oneS).length ≤ 1000000) && decide ((fldV n retK zerS).length ≤ 1000000) && okTs (getV n tstK)
theorem okH_iff {n : Node} : okH n = true ↔ fit n = true ∧ (fldV n intK oneS).length ≤ 1000000 ∧ (fldV n stpK oneS).length ≤ 1000000 ∧ (fldV n retK zerS).length ≤ 1000000 ∧ okTs (getV n tstK) = true := by simp [okH, and_assoc]
noncomputable def nhealth_W : FnW E := fn12 (E := E) .api_Node .api_Node .api_Errno okH hV hE
def nhealth_id : FuncId := 33
noncomputable def nhealth_O : Oracle E := withI (orac [(58, dcount_W), (53, dgtext_W), (79, dparse_W), (80, dtext_W), (71, nget_W), (54, ndsorted_W 12), (62, ntext_W), (52, nwith_W), (81, nsaid_W), (78, ntest_W)] [] [] []) [(18, Tryz.f18), (20, Tryz.f20), (21, Tryz.f21), (44, Tryz.f44), (45, Tryz.f45), (46, Tryz.f46), (47, Tryz.f47), (77, Tryz.f77)]
noncomputable def nhealth_H : Hint E := Hint.mk [(0, [1, 2, 4, 5, 6, 61, 62, 63])] [] [(0, [(4, some 2, false, .str), (4, some 3, false, .api_Node)])] [] []
noncomputable def nhealth_C0_k_2_0 (v0 : Bool) (v1 : Int) (v2 : List UInt8) (v3 : List (List UInt8)) (v4 : List Node) (v5 : Int) (v6 : List UInt8) (v7 : Int) (v8 : List UInt8) (v9 : List (List UInt8)) (v10 : List Node) (v11 : Bool) (v12 : Int) (v13 : List UInt8) (v14 : List (List UInt8)) (v15 : List Node) (v16 : Int) (v17 : Bool) : ASt E := ASt.mk 139 [(1, .ptr 0 0), (2, .ptr 1 0), (4, .ptr 2 0), (5, .ptr 3 0), (6, .d (.bool v0)), (61, .d (.slice .str ([([105, 110, 116, 101, 114, 118, 97, 108] : List UInt8), ([115, 116, 97, 114, 116, 95, 112, 101, 114, 105, 111, 100] : List UInt8)] : List (List UInt8)))), (62, .d (.int .i64 (2 : Int))), (63, .d (.int .i64 (0 : Int)))] [(0, .box [.d (.int .i64 v1), .d (.str v2), .d (.slice .str v3), .d (.slice .api_Node v4)]), (1, .box [.d (.int .i64 v5), .d (.str v6), .d (.raw (.slice none 0 0)), .d (.raw (.slice none 0 0))]), (2, .box [.d (.int .i64 v7), .d (.str v8), .d (.slice .str v9), .d (.slice .api_Node v10), .d (.bool v11)]), (3, .box [.d (.int .i64 v12), .d (.str v13), .d (.slice .str v14), .d (.slice .api_Node v15), .d (.int .i64 v16), .d (.bool v17)])] 4
noncomputable def nhealth_C0_k_2_1 (v0 : Bool) (v1 : Int) (v2 : List UInt8) (v3 : List (List UInt8)) (v4 : List Node) (v5 : Int) (v6 : List UInt8) (v7 : Int) (v8 : List UInt8) (v9 : List (List UInt8)) (v10 : List Node) (v11 : Bool) (v12 : Int) (v13 : List UInt8) (v14 : List (List UInt8)) (v15 : List Node) (v16 : Int) (v17 : Bool) : ASt E := ASt.mk 139 [(1, .ptr 0 0), (2, .ptr 1 0), (4, .ptr 2 0), (5, .ptr 3 0), (6, .d (.bool v0)), (61, .d (.slice .str ([([105, 110, 116, 101, 114, 118, 97, 108] : List UInt8), ([115, 116, 97, 114, 116, 95, 112, 101, 114, 105, 111, 100] : List UInt8)] : List (List UInt8)))), (62, .d (.int .i64 (2 : Int))), (63, .d (.int .i64 (1 : Int)))] [(0, .box [.d (.int .i64 v1), .d (.str v2), .d (.slice .str v3), .d (.slice .api_Node v4)]), (1, .box [.d (.int .i64 v5), .d (.str v6), .d (.raw (.slice none 0 0)), .d (.raw (.slice none 0 0))]), (2, .box [.d (.int .i64 v7), .d (.str v8), .d (.slice .str v9), .d (.slice .api_Node v10), .d (.bool v11)]), (3, .box [.d (.int .i64 v12), .d (.str v13), .d (.slice .str v14), .d (.slice .api_Node v15), .d (.int .i64 v16), .d (.bool v17)])] 4
noncomputable def nhealth_C0_k_2_2 (v0 : Bool) (v1 : Int) (v2 : List UInt8) (v3 : List (List UInt8)) (v4 : List Node) (v5 : Int) (v6 : List UInt8) (v7 : Int) (v8 : List UInt8) (v9 : List (List UInt8)) (v10 : List Node) (v11 : Bool) (v12 : Int) (v13 : List UInt8) (v14 : List (List UInt8)) (v15 : List Node) (v16 : Int) (v17 : Bool) : ASt E := ASt.mk 139 [(1, .ptr 0 0), (2, .ptr 1 0), (4, .ptr 2 0), (5, .ptr 3 0), (6, .d (.bool v0)), (61, .d (.slice .str ([([105, 110, 116, 101, 114, 118, 97, 108] : List UInt8), ([115, 116, 97, 114, 116, 95, 112, 101, 114, 105, 111, 100] : List UInt8)] : List (List UInt8)))), (62, .d (.int .i64 (2 : Int))), (63, .d (.int .i64 (2 : Int)))] [(0, .box [.d (.int .i64 v1), .d (.str v2), .d (.slice .str v3), .d (.slice .api_Node v4)]), (1, .box [.d (.int .i64 v5), .d (.str v6), .d (.raw (.slice none 0 0)), .d (.raw (.slice none 0 0))]), (2, .box [.d (.int .i64 v7), .d (.str v8), .d (.slice .str v9), .d (.slice .api_Node v10), .d (.bool v11)]), (3, .box [.d (.int .i64 v12), .d (.str v13), .d (.slice .str v14), .d (.slice .api_Node v15), .d (.int .i64 v16), .d (.bool v17)])] 4
def nhealth_a0 : List UInt8 := [100, 105, 115, 97, 98, 108, 101]
def nhealth_a1 : List UInt8 := [116, 101, 115, 116]
def nhealth_a2 : List UInt8 := [116, 114, 117, 101]
def nhealth_a3 : List UInt8 := [102, 97, 108, 115, 101]
def nhealth_a4 : List UInt8 := [105, 110, 116, 101, 114, 118, 97, 108]
def nhealth_a5 : List UInt8 := [115, 116, 97, 114, 116, 95, 112, 101, 114, 105, 111, 100]
def nhealth_a6 : List UInt8 := [114, 101, 116, 114, 105, 101, 115]
def nhealth_n7  : Node := ⟨(0 : Int), ([] : List UInt8), ([] : List (List UInt8)), ([] : List Node)⟩
def nhealth_n8 (x0 : Node) : Node := ⟨x0.kind, x0.text, x0.keys, x0.kids⟩
noncomputable def nhealth_t (G : Nat → ASt E → Option (List (TV E))) (x0 : Node) : Option (List (TV E)) :=
  bif ((fun n _ => fit n) (nhealth_n8 x0) nhealth_a0) then (bif (!(getB (nhealth_n8 x0) nhealth_a0)) then (bif ((fun n _ => fit n) (nhealth_n8 x0) nhealth_a1) then (bif (getB (nhealth_n8 x0) nhealth_a1) then (bif (okTs ⟨(getV (nhealth_n8 x0) nhealth_a1).kind, (getV (nhealth_n8 x0) nhealth_a1).text, (getV (nhealth_n8 x0) nhealth_a1).keys, (getV (nhealth_n8 x0) nhealth_a1).kids⟩) then (bif (okWp nhealth_n7 nhealth_a1 ⟨1, (tsS ⟨(getV (nhealth_n8 x0) nhealth_a1).kind, (getV (nhealth_n8 x0) nhealth_a1).text, (getV (nhealth_n8 x0) nhealth_a1).keys, (getV (nhealth_n8 x0) nhealth_a1).kids⟩), [], []⟩) then G 0 (nhealth_C0_k_2_0 (tsN ⟨(getV (nhealth_n8 x0) nhealth_a1).kind, (getV (nhealth_n8 x0) nhealth_a1).text, (getV (nhealth_n8 x0) nhealth_a1).keys, (getV (nhealth_n8 x0) nhealth_a1).kids⟩) x0.kind x0.text x0.keys x0.kids 0 [] ((withP nhealth_n7 nhealth_a1 ⟨1, (tsS ⟨(getV (nhealth_n8 x0) nhealth_a1).kind, (getV (nhealth_n8 x0) nhealth_a1).text, (getV (nhealth_n8 x0) nhealth_a1).keys, (getV (nhealth_n8 x0) nhealth_a1).kids⟩), [], []⟩).kind) ((withP nhealth_n7 nhealth_a1 ⟨1, (tsS ⟨(getV (nhealth_n8 x0) nhealth_a1).kind, (getV (nhealth_n8 x0) nhealth_a1).text, (getV (nhealth_n8 x0) nhealth_a1).keys, (getV (nhealth_n8 x0) nhealth_a1).kids⟩), [], []⟩).text) ((withP nhealth_n7 nhealth_a1 ⟨1, (tsS ⟨(getV (nhealth_n8 x0) nhealth_a1).kind, (getV (nhealth_n8 x0) nhealth_a1).text, (getV (nhealth_n8 x0) nhealth_a1).keys, (getV (nhealth_n8 x0) nhealth_a1).kids⟩), [], []⟩).keys) ((withP nhealth_n7 nhealth_a1 ⟨1, (tsS ⟨(getV (nhealth_n8 x0) nhealth_a1).kind, (getV (nhealth_n8 x0) nhealth_a1).text, (getV (nhealth_n8 x0) nhealth_a1).keys, (getV (nhealth_n8 x0) nhealth_a1).kids⟩), [], []⟩).kids) false x0.kind x0.text x0.keys x0.kids (w64 ((x0.keys.length : Int) - (1 : Int))) (bif (bif (x0.kind != (3 : Int)) then true else false) then true else (!(tsR ⟨(getV (nhealth_n8 x0) nhealth_a1).kind, (getV (nhealth_n8 x0) nhealth_a1).text, (getV (nhealth_n8 x0) nhealth_a1).keys, (getV (nhealth_n8 x0) nhealth_a1).kids⟩)))) else none) else none) else G 0 (nhealth_C0_k_2_0 false x0.kind x0.text x0.keys x0.kids 0 [] 0 [] [] [] false x0.kind x0.text x0.keys x0.kids (x0.keys.length : Int) (bif (x0.kind != (3 : Int)) then true else false))) else none) else (bif ((fun n _ => fit n) (nhealth_n8 x0) nhealth_a1) then (bif (getB (nhealth_n8 x0) nhealth_a1) then (bif (okTs ⟨(getV (nhealth_n8 x0) nhealth_a1).kind, (getV (nhealth_n8 x0) nhealth_a1).text, (getV (nhealth_n8 x0) nhealth_a1).keys, (getV (nhealth_n8 x0) nhealth_a1).kids⟩) then (bif (okWp nhealth_n7 nhealth_a1 ⟨1, (tsS ⟨(getV (nhealth_n8 x0) nhealth_a1).kind, (getV (nhealth_n8 x0) nhealth_a1).text, (getV (nhealth_n8 x0) nhealth_a1).keys, (getV (nhealth_n8 x0) nhealth_a1).kids⟩), [], []⟩) then G 0 (nhealth_C0_k_2_0 (bif ((getV (nhealth_n8 x0) nhealth_a0).text == nhealth_a2) then true else (tsN ⟨(getV (nhealth_n8 x0) nhealth_a1).kind, (getV (nhealth_n8 x0) nhealth_a1).text, (getV (nhealth_n8 x0) nhealth_a1).keys, (getV (nhealth_n8 x0) nhealth_a1).kids⟩)) x0.kind x0.text x0.keys x0.kids 0 [] ((withP nhealth_n7 nhealth_a1 ⟨1, (tsS ⟨(getV (nhealth_n8 x0) nhealth_a1).kind, (getV (nhealth_n8 x0) nhealth_a1).text, (getV (nhealth_n8 x0) nhealth_a1).keys, (getV (nhealth_n8 x0) nhealth_a1).kids⟩), [], []⟩).kind) ((withP nhealth_n7 nhealth_a1 ⟨1, (tsS ⟨(getV (nhealth_n8 x0) nhealth_a1).kind, (getV (nhealth_n8 x0) nhealth_a1).text, (getV (nhealth_n8 x0) nhealth_a1).keys, (getV (nhealth_n8 x0) nhealth_a1).kids⟩), [], []⟩).text) ((withP nhealth_n7 nhealth_a1 ⟨1, (tsS ⟨(getV (nhealth_n8 x0) nhealth_a1).kind, (getV (nhealth_n8 x0) nhealth_a1).text, (getV (nhealth_n8 x0) nhealth_a1).keys, (getV (nhealth_n8 x0) nhealth_a1).kids⟩), [], []⟩).keys) ((withP nhealth_n7 nhealth_a1 ⟨1, (tsS ⟨(getV (nhealth_n8 x0) nhealth_a1).kind, (getV (nhealth_n8 x0) nhealth_a1).text, (getV (nhealth_n8 x0) nhealth_a1).keys, (getV (nhealth_n8 x0) nhealth_a1).kids⟩), [], []⟩).kids) false x0.kind x0.text x0.keys x0.kids (w64 ((w64 ((x0.keys.length : Int) - (1 : Int))) - (1 : Int))) (bif (bif (bif (x0.kind != (3 : Int)) then true else ((getV (nhealth_n8 x0) nhealth_a0).kind != (1 : Int))) then true else (bif (!((getV (nhealth_n8 x0) nhealth_a0).text == nhealth_a2)) then (!((getV (nhealth_n8 x0) nhealth_a0).text == nhealth_a3)) else false)) then true else (!(tsR ⟨(getV (nhealth_n8 x0) nhealth_a1).kind, (getV (nhealth_n8 x0) nhealth_a1).text, (getV (nhealth_n8 x0) nhealth_a1).keys, (getV (nhealth_n8 x0) nhealth_a1).kids⟩)))) else none) else none) else G 0 (nhealth_C0_k_2_0 ((getV (nhealth_n8 x0) nhealth_a0).text == nhealth_a2) x0.kind x0.text x0.keys x0.kids 0 [] 0 [] [] [] false x0.kind x0.text x0.keys x0.kids (w64 ((x0.keys.length : Int) - (1 : Int))) (bif (bif (x0.kind != (3 : Int)) then true else ((getV (nhealth_n8 x0) nhealth_a0).kind != (1 : Int))) then true else (bif (!((getV (nhealth_n8 x0) nhealth_a0).text == nhealth_a2)) then (!((getV (nhealth_n8 x0) nhealth_a0).text == nhealth_a3)) else false)))) else none)) else none
theorem nhealth_e (G : Nat → ASt E → Option (List (TV E))) (x0 : Node) : runE nhealth_O nhealth_H G Tryz.f33 [⟨.api_Node, x0⟩] = nhealth_t G x0 := by kernel_rfl
noncomputable def nhealth_t0_k_2_0 (G : Nat → ASt E → Option (List (TV E))) (v0 : Bool) (v1 : Int) (v2 : List UInt8) (v3 : List (List UInt8)) (v4 : List Node) (v5 : Int) (v6 : List UInt8) (v7 : Int) (v8 : List UInt8) (v9 : List (List UInt8)) (v10 : List Node) (v11 : Bool) (v12 : Int) (v13 : List UInt8) (v14 : List (List UInt8)) (v15 : List Node) (v16 : Int) (v17 : Bool) : Option (List (TV E)) :=
  bif ((fun n _ => fit n) (⟨v12, v13, v14, v15⟩ : Node) nhealth_a4) then (bif (!(getB ⟨v12, v13, v14, v15⟩ nhealth_a4)) then (bif (okL1 [49, 115]) then (bif ((fun n _ => fit n) (⟨v1, v2, v3, v4⟩ : Node) nhealth_a4) then (bif (getB ⟨v1, v2, v3, v4⟩ nhealth_a4) then (bif (okWp ⟨v7, v8, v9, v10⟩ nhealth_a4 ⟨1, (dtV (durV [49, 115])), [], []⟩) then G 0 (nhealth_C0_k_2_1 v0 v1 v2 v3 v4 v5 v6 ((withP ⟨v7, v8, v9, v10⟩ nhealth_a4 ⟨1, (dtV (durV [49, 115])), [], []⟩).kind) ((withP ⟨v7, v8, v9, v10⟩ nhealth_a4 ⟨1, (dtV (durV [49, 115])), [], []⟩).text) ((withP ⟨v7, v8, v9, v10⟩ nhealth_a4 ⟨1, (dtV (durV [49, 115])), [], []⟩).keys) ((withP ⟨v7, v8, v9, v10⟩ nhealth_a4 ⟨1, (dtV (durV [49, 115])), [], []⟩).kids) v11 v12 v13 v14 v15 v16 (bif (bif v17 then true else ((durE [49, 115]) != (0 : Int))) then true else ((durV [49, 115]) == (0 : Int)))) else none) else G 0 (nhealth_C0_k_2_1 v0 v1 v2 v3 v4 v5 v6 v7 v8 v9 v10 v11 v12 v13 v14 v15 v16 (bif (bif v17 then true else ((durE [49, 115]) != (0 : Int))) then true else ((durV [49, 115]) == (0 : Int))))) else none) else none) else (bif (okL1 ((getV ⟨v12, v13, v14, v15⟩ nhealth_a4).text)) then (bif ((fun n _ => fit n) (⟨v1, v2, v3, v4⟩ : Node) nhealth_a4) then (bif (getB ⟨v1, v2, v3, v4⟩ nhealth_a4) then (bif (okWp ⟨v7, v8, v9, v10⟩ nhealth_a4 ⟨1, (dtV (durV ((getV ⟨v12, v13, v14, v15⟩ nhealth_a4).text))), [], []⟩) then G 0 (nhealth_C0_k_2_1 v0 v1 v2 v3 v4 v5 v6 ((withP ⟨v7, v8, v9, v10⟩ nhealth_a4 ⟨1, (dtV (durV ((getV ⟨v12, v13, v14, v15⟩ nhealth_a4).text))), [], []⟩).kind) ((withP ⟨v7, v8, v9, v10⟩ nhealth_a4 ⟨1, (dtV (durV ((getV ⟨v12, v13, v14, v15⟩ nhealth_a4).text))), [], []⟩).text) ((withP ⟨v7, v8, v9, v10⟩ nhealth_a4 ⟨1, (dtV (durV ((getV ⟨v12, v13, v14, v15⟩ nhealth_a4).text))), [], []⟩).keys) ((withP ⟨v7, v8, v9, v10⟩ nhealth_a4 ⟨1, (dtV (durV ((getV ⟨v12, v13, v14, v15⟩ nhealth_a4).text))), [], []⟩).kids) v11 v12 v13 v14 v15 (w64 (v16 - (1 : Int))) (bif (bif (bif v17 then true else ((getV ⟨v12, v13, v14, v15⟩ nhealth_a4).kind != (1 : Int))) then true else ((durE ((getV ⟨v12, v13, v14, v15⟩ nhealth_a4).text)) != (0 : Int))) then true else ((durV ((getV ⟨v12, v13, v14, v15⟩ nhealth_a4).text)) == (0 : Int)))) else none) else G 0 (nhealth_C0_k_2_1 v0 v1 v2 v3 v4 v5 v6 v7 v8 v9 v10 v11 v12 v13 v14 v15 (w64 (v16 - (1 : Int))) (bif (bif (bif v17 then true else ((getV ⟨v12, v13, v14, v15⟩ nhealth_a4).kind != (1 : Int))) then true else ((durE ((getV ⟨v12, v13, v14, v15⟩ nhealth_a4).text)) != (0 : Int))) then true else ((durV ((getV ⟨v12, v13, v14, v15⟩ nhealth_a4).text)) == (0 : Int))))) else none) else none)) else none
theorem nhealth_l0_k_2_0 (G : Nat → ASt E → Option (List (TV E))) (v0 : Bool) (v1 : Int) (v2 : List UInt8) (v3 : List (List UInt8)) (v4 : List Node) (v5 : Int) (v6 : List UInt8) (v7 : Int) (v8 : List UInt8) (v9 : List (List UInt8)) (v10 : List Node) (v11 : Bool) (v12 : Int) (v13 : List UInt8) (v14 : List (List UInt8)) (v15 : List Node) (v16 : Int) (v17 : Bool) : runL nhealth_O nhealth_H G Tryz.f33 0 (nhealth_C0_k_2_0 v0 v1 v2 v3 v4 v5 v6 v7 v8 v9 v10 v11 v12 v13 v14 v15 v16 v17) = nhealth_t0_k_2_0 G v0 v1 v2 v3 v4 v5 v6 v7 v8 v9 v10 v11 v12 v13 v14 v15 v16 v17 := by kernel_rfl
noncomputable def nhealth_t0_k_2_1 (G : Nat → ASt E → Option (List (TV E))) (v0 : Bool) (v1 : Int) (v2 : List UInt8) (v3 : List (List UInt8)) (v4 : List Node) (v5 : Int) (v6 : List UInt8) (v7 : Int) (v8 : List UInt8) (v9 : List (List UInt8)) (v10 : List Node) (v11 : Bool) (v12 : Int) (v13 : List UInt8) (v14 : List (List UInt8)) (v15 : List Node) (v16 : Int) (v17 : Bool) : Option (List (TV E)) :=
  bif ((fun n _ => fit n) (⟨v12, v13, v14, v15⟩ : Node) nhealth_a5) then (bif (!(getB ⟨v12, v13, v14, v15⟩ nhealth_a5)) then (bif (okL1 [49, 115]) then (bif ((fun n _ => fit n) (⟨v1, v2, v3, v4⟩ : Node) nhealth_a5) then (bif (getB ⟨v1, v2, v3, v4⟩ nhealth_a5) then (bif (okWp ⟨v7, v8, v9, v10⟩ nhealth_a5 ⟨1, (dtV (durV [49, 115])), [], []⟩) then G 0 (nhealth_C0_k_2_2 v0 v1 v2 v3 v4 v5 v6 ((withP ⟨v7, v8, v9, v10⟩ nhealth_a5 ⟨1, (dtV (durV [49, 115])), [], []⟩).kind) ((withP ⟨v7, v8, v9, v10⟩ nhealth_a5 ⟨1, (dtV (durV [49, 115])), [], []⟩).text) ((withP ⟨v7, v8, v9, v10⟩ nhealth_a5 ⟨1, (dtV (durV [49, 115])), [], []⟩).keys) ((withP ⟨v7, v8, v9, v10⟩ nhealth_a5 ⟨1, (dtV (durV [49, 115])), [], []⟩).kids) v11 v12 v13 v14 v15 v16 (bif (bif v17 then true else ((durE [49, 115]) != (0 : Int))) then true else false)) else none) else G 0 (nhealth_C0_k_2_2 v0 v1 v2 v3 v4 v5 v6 v7 v8 v9 v10 v11 v12 v13 v14 v15 v16 (bif (bif v17 then true else ((durE [49, 115]) != (0 : Int))) then true else false))) else none) else none) else (bif (okL1 ((getV ⟨v12, v13, v14, v15⟩ nhealth_a5).text)) then (bif ((fun n _ => fit n) (⟨v1, v2, v3, v4⟩ : Node) nhealth_a5) then (bif (getB ⟨v1, v2, v3, v4⟩ nhealth_a5) then (bif (okWp ⟨v7, v8, v9, v10⟩ nhealth_a5 ⟨1, (dtV (durV ((getV ⟨v12, v13, v14, v15⟩ nhealth_a5).text))), [], []⟩) then G 0 (nhealth_C0_k_2_2 v0 v1 v2 v3 v4 v5 v6 ((withP ⟨v7, v8, v9, v10⟩ nhealth_a5 ⟨1, (dtV (durV ((getV ⟨v12, v13, v14, v15⟩ nhealth_a5).text))), [], []⟩).kind) ((withP ⟨v7, v8, v9, v10⟩ nhealth_a5 ⟨1, (dtV (durV ((getV ⟨v12, v13, v14, v15⟩ nhealth_a5).text))), [], []⟩).text) ((withP ⟨v7, v8, v9, v10⟩ nhealth_a5 ⟨1, (dtV (durV ((getV ⟨v12, v13, v14, v15⟩ nhealth_a5).text))), [], []⟩).keys) ((withP ⟨v7, v8, v9, v10⟩ nhealth_a5 ⟨1, (dtV (durV ((getV ⟨v12, v13, v14, v15⟩ nhealth_a5).text))), [], []⟩).kids) v11 v12 v13 v14 v15 (w64 (v16 - (1 : Int))) (bif (bif (bif v17 then true else ((getV ⟨v12, v13, v14, v15⟩ nhealth_a5).kind != (1 : Int))) then true else ((durE ((getV ⟨v12, v13, v14, v15⟩ nhealth_a5).text)) != (0 : Int))) then true else false)) else none) else G 0 (nhealth_C0_k_2_2 v0 v1 v2 v3 v4 v5 v6 v7 v8 v9 v10 v11 v12 v13 v14 v15 (w64 (v16 - (1 : Int))) (bif (bif (bif v17 then true else ((getV ⟨v12, v13, v14, v15⟩ nhealth_a5).kind != (1 : Int))) then true else ((durE ((getV ⟨v12, v13, v14, v15⟩ nhealth_a5).text)) != (0 : Int))) then true else false))) else none) else none)) else none
theorem nhealth_l0_k_2_1 (G : Nat → ASt E → Option (List (TV E))) (v0 : Bool) (v1 : Int) (v2 : List UInt8) (v3 : List (List UInt8)) (v4 : List Node) (v5 : Int) (v6 : List UInt8) (v7 : Int) (v8 : List UInt8) (v9 : List (List UInt8)) (v10 : List Node) (v11 : Bool) (v12 : Int) (v13 : List UInt8) (v14 : List (List UInt8)) (v15 : List Node) (v16 : Int) (v17 : Bool) : runL nhealth_O nhealth_H G Tryz.f33 0 (nhealth_C0_k_2_1 v0 v1 v2 v3 v4 v5 v6 v7 v8 v9 v10 v11 v12 v13 v14 v15 v16 v17) = nhealth_t0_k_2_1 G v0 v1 v2 v3 v4 v5 v6 v7 v8 v9 v10 v11 v12 v13 v14 v15 v16 v17 := by kernel_rfl
noncomputable def nhealth_t0_k_2_2 (_G : Nat → ASt E → Option (List (TV E))) (v0 : Bool) (_v1 : Int) (_v2 : List UInt8) (_v3 : List (List UInt8)) (_v4 : List Node) (_v5 : Int) (_v6 : List UInt8) (v7 : Int) (v8 : List UInt8) (v9 : List (List UInt8)) (v10 : List Node) (v11 : Bool) (v12 : Int) (v13 : List UInt8) (v14 : List (List UInt8)) (v15 : List Node) (v16 : Int) (v17 : Bool) : Option (List (TV E)) :=
  bif ((fun n _ => fit n) (⟨v12, v13, v14, v15⟩ : Node) nhealth_a6) then (bif (!(getB ⟨v12, v13, v14, v15⟩ nhealth_a6)) then (bif (pokW [48] 65536) then (bif ((fun n _ => fit n) (⟨v12, v13, v14, v15⟩ : Node) nhealth_a6) then (bif (decide ((0 : Int) < (pwholeV [48] 65536))) then (bif (okI (pwholeV [48] 65536)) then (bif (okWp ⟨v7, v8, v9, v10⟩ nhealth_a6 ⟨1, (textV (pwholeV [48] 65536)), [], []⟩) then (bif (!(bif (!(bif (bif (bif v17 then true else ((pwholeE [48] 65536) != (0 : Int))) then true else (bif (getB ⟨v12, v13, v14, v15⟩ nhealth_a6) then ((pwholeV [48] 65536) == (0 : Int)) else false)) then true else (decide ((10 : Int) < (pwholeV [48] 65536))))) then (v16 == (0 : Int)) else false)) then some [⟨.api_Node, (⟨0, [], [], []⟩ : Node)⟩, ⟨.api_Errno, (10 : Int)⟩] else (bif v0 then (bif (okWp ⟨0, [], [], []⟩ nhealth_a0 ⟨1, (tfV true), [], []⟩) then (bif (decide ((32 : Int) < (((withP ⟨0, [], [], []⟩ nhealth_a0 ⟨1, (tfV true), [], []⟩).keys).length : Int))) then some [⟨.api_Node, (⟨0, [], [], []⟩ : Node)⟩, ⟨.api_Errno, (10 : Int)⟩] else (bif ((wg 10000 12) (⟨3, (withP ⟨0, [], [], []⟩ nhealth_a0 ⟨1, (tfV true), [], []⟩).text, (withP ⟨0, [], [], []⟩ nhealth_a0 ⟨1, (tfV true), [], []⟩).keys, (withP ⟨0, [], [], []⟩ nhealth_a0 ⟨1, (tfV true), [], []⟩).kids⟩ : Node)) then some [⟨.api_Node, (⟨((sortP 12) (⟨3, (withP ⟨0, [], [], []⟩ nhealth_a0 ⟨1, (tfV true), [], []⟩).text, (withP ⟨0, [], [], []⟩ nhealth_a0 ⟨1, (tfV true), [], []⟩).keys, (withP ⟨0, [], [], []⟩ nhealth_a0 ⟨1, (tfV true), [], []⟩).kids⟩ : Node)).kind, ((sortP 12) (⟨3, (withP ⟨0, [], [], []⟩ nhealth_a0 ⟨1, (tfV true), [], []⟩).text, (withP ⟨0, [], [], []⟩ nhealth_a0 ⟨1, (tfV true), [], []⟩).keys, (withP ⟨0, [], [], []⟩ nhealth_a0 ⟨1, (tfV true), [], []⟩).kids⟩ : Node)).text, ((sortP 12) (⟨3, (withP ⟨0, [], [], []⟩ nhealth_a0 ⟨1, (tfV true), [], []⟩).text, (withP ⟨0, [], [], []⟩ nhealth_a0 ⟨1, (tfV true), [], []⟩).keys, (withP ⟨0, [], [], []⟩ nhealth_a0 ⟨1, (tfV true), [], []⟩).kids⟩ : Node)).keys, ((sortP 12) (⟨3, (withP ⟨0, [], [], []⟩ nhealth_a0 ⟨1, (tfV true), [], []⟩).text, (withP ⟨0, [], [], []⟩ nhealth_a0 ⟨1, (tfV true), [], []⟩).keys, (withP ⟨0, [], [], []⟩ nhealth_a0 ⟨1, (tfV true), [], []⟩).kids⟩ : Node)).kids⟩ : Node)⟩, ⟨.api_Errno, (0 : Int)⟩] else none)) else none) else (bif (bif v11 then true else (decide ((32 : Int) < (((withP ⟨v7, v8, v9, v10⟩ nhealth_a6 ⟨1, (textV (pwholeV [48] 65536)), [], []⟩).keys).length : Int)))) then some [⟨.api_Node, (⟨0, [], [], []⟩ : Node)⟩, ⟨.api_Errno, (10 : Int)⟩] else (bif ((wg 10000 12) (⟨3, (withP ⟨v7, v8, v9, v10⟩ nhealth_a6 ⟨1, (textV (pwholeV [48] 65536)), [], []⟩).text, (withP ⟨v7, v8, v9, v10⟩ nhealth_a6 ⟨1, (textV (pwholeV [48] 65536)), [], []⟩).keys, (withP ⟨v7, v8, v9, v10⟩ nhealth_a6 ⟨1, (textV (pwholeV [48] 65536)), [], []⟩).kids⟩ : Node)) then some [⟨.api_Node, (⟨((sortP 12) (⟨3, (withP ⟨v7, v8, v9, v10⟩ nhealth_a6 ⟨1, (textV (pwholeV [48] 65536)), [], []⟩).text, (withP ⟨v7, v8, v9, v10⟩ nhealth_a6 ⟨1, (textV (pwholeV [48] 65536)), [], []⟩).keys, (withP ⟨v7, v8, v9, v10⟩ nhealth_a6 ⟨1, (textV (pwholeV [48] 65536)), [], []⟩).kids⟩ : Node)).kind, ((sortP 12) (⟨3, (withP ⟨v7, v8, v9, v10⟩ nhealth_a6 ⟨1, (textV (pwholeV [48] 65536)), [], []⟩).text, (withP ⟨v7, v8, v9, v10⟩ nhealth_a6 ⟨1, (textV (pwholeV [48] 65536)), [], []⟩).keys, (withP ⟨v7, v8, v9, v10⟩ nhealth_a6 ⟨1, (textV (pwholeV [48] 65536)), [], []⟩).kids⟩ : Node)).text, ((sortP 12) (⟨3, (withP ⟨v7, v8, v9, v10⟩ nhealth_a6 ⟨1, (textV (pwholeV [48] 65536)), [], []⟩).text, (withP ⟨v7, v8, v9, v10⟩ nhealth_a6 ⟨1, (textV (pwholeV [48] 65536)), [], []⟩).keys, (withP ⟨v7, v8, v9, v10⟩ nhealth_a6 ⟨1, (textV (pwholeV [48] 65536)), [], []⟩).kids⟩ : Node)).keys, ((sortP 12) (⟨3, (withP ⟨v7, v8, v9, v10⟩ nhealth_a6 ⟨1, (textV (pwholeV [48] 65536)), [], []⟩).text, (withP ⟨v7, v8, v9, v10⟩ nhealth_a6 ⟨1, (textV (pwholeV [48] 65536)), [], []⟩).keys, (withP ⟨v7, v8, v9, v10⟩ nhealth_a6 ⟨1, (textV (pwholeV [48] 65536)), [], []⟩).kids⟩ : Node)).kids⟩ : Node)⟩, ⟨.api_Errno, (0 : Int)⟩] else none)))) else none) else none) else (bif (!(bif (!(bif (bif v17 then true else ((pwholeE [48] 65536) != (0 : Int))) then true else (bif (getB ⟨v12, v13, v14, v15⟩ nhealth_a6) then ((pwholeV [48] 65536) == (0 : Int)) else false))) then (v16 == (0 : Int)) else false)) then some [⟨.api_Node, (⟨0, [], [], []⟩ : Node)⟩, ⟨.api_Errno, (10 : Int)⟩] else (bif v0 then (bif (okWp ⟨0, [], [], []⟩ nhealth_a0 ⟨1, (tfV true), [], []⟩) then (bif (decide ((32 : Int) < (((withP ⟨0, [], [], []⟩ nhealth_a0 ⟨1, (tfV true), [], []⟩).keys).length : Int))) then some [⟨.api_Node, (⟨0, [], [], []⟩ : Node)⟩, ⟨.api_Errno, (10 : Int)⟩] else (bif ((wg 10000 12) (⟨3, (withP ⟨0, [], [], []⟩ nhealth_a0 ⟨1, (tfV true), [], []⟩).text, (withP ⟨0, [], [], []⟩ nhealth_a0 ⟨1, (tfV true), [], []⟩).keys, (withP ⟨0, [], [], []⟩ nhealth_a0 ⟨1, (tfV true), [], []⟩).kids⟩ : Node)) then some [⟨.api_Node, (⟨((sortP 12) (⟨3, (withP ⟨0, [], [], []⟩ nhealth_a0 ⟨1, (tfV true), [], []⟩).text, (withP ⟨0, [], [], []⟩ nhealth_a0 ⟨1, (tfV true), [], []⟩).keys, (withP ⟨0, [], [], []⟩ nhealth_a0 ⟨1, (tfV true), [], []⟩).kids⟩ : Node)).kind, ((sortP 12) (⟨3, (withP ⟨0, [], [], []⟩ nhealth_a0 ⟨1, (tfV true), [], []⟩).text, (withP ⟨0, [], [], []⟩ nhealth_a0 ⟨1, (tfV true), [], []⟩).keys, (withP ⟨0, [], [], []⟩ nhealth_a0 ⟨1, (tfV true), [], []⟩).kids⟩ : Node)).text, ((sortP 12) (⟨3, (withP ⟨0, [], [], []⟩ nhealth_a0 ⟨1, (tfV true), [], []⟩).text, (withP ⟨0, [], [], []⟩ nhealth_a0 ⟨1, (tfV true), [], []⟩).keys, (withP ⟨0, [], [], []⟩ nhealth_a0 ⟨1, (tfV true), [], []⟩).kids⟩ : Node)).keys, ((sortP 12) (⟨3, (withP ⟨0, [], [], []⟩ nhealth_a0 ⟨1, (tfV true), [], []⟩).text, (withP ⟨0, [], [], []⟩ nhealth_a0 ⟨1, (tfV true), [], []⟩).keys, (withP ⟨0, [], [], []⟩ nhealth_a0 ⟨1, (tfV true), [], []⟩).kids⟩ : Node)).kids⟩ : Node)⟩, ⟨.api_Errno, (0 : Int)⟩] else none)) else none) else (bif (bif v11 then true else (decide ((32 : Int) < (v9.length : Int)))) then some [⟨.api_Node, (⟨0, [], [], []⟩ : Node)⟩, ⟨.api_Errno, (10 : Int)⟩] else (bif ((wg 10000 12) (⟨3, v8, v9, v10⟩ : Node)) then some [⟨.api_Node, (⟨((sortP 12) (⟨3, v8, v9, v10⟩ : Node)).kind, ((sortP 12) (⟨3, v8, v9, v10⟩ : Node)).text, ((sortP 12) (⟨3, v8, v9, v10⟩ : Node)).keys, ((sortP 12) (⟨3, v8, v9, v10⟩ : Node)).kids⟩ : Node)⟩, ⟨.api_Errno, (0 : Int)⟩] else none))))) else none) else none) else (bif (pokW ((getV ⟨v12, v13, v14, v15⟩ nhealth_a6).text) 65536) then (bif ((fun n _ => fit n) (⟨v12, v13, v14, v15⟩ : Node) nhealth_a6) then (bif (decide ((0 : Int) < (pwholeV ((getV ⟨v12, v13, v14, v15⟩ nhealth_a6).text) 65536))) then (bif (okI (pwholeV ((getV ⟨v12, v13, v14, v15⟩ nhealth_a6).text) 65536)) then (bif (okWp ⟨v7, v8, v9, v10⟩ nhealth_a6 ⟨1, (textV (pwholeV ((getV ⟨v12, v13, v14, v15⟩ nhealth_a6).text) 65536)), [], []⟩) then (bif (!(bif (!(bif (bif (bif (bif v17 then true else ((getV ⟨v12, v13, v14, v15⟩ nhealth_a6).kind != (1 : Int))) then true else ((pwholeE ((getV ⟨v12, v13, v14, v15⟩ nhealth_a6).text) 65536) != (0 : Int))) then true else (bif (getB ⟨v12, v13, v14, v15⟩ nhealth_a6) then ((pwholeV ((getV ⟨v12, v13, v14, v15⟩ nhealth_a6).text) 65536) == (0 : Int)) else false)) then true else (decide ((10 : Int) < (pwholeV ((getV ⟨v12, v13, v14, v15⟩ nhealth_a6).text) 65536))))) then ((w64 (v16 - (1 : Int))) == (0 : Int)) else false)) then some [⟨.api_Node, (⟨0, [], [], []⟩ : Node)⟩, ⟨.api_Errno, (10 : Int)⟩] else (bif v0 then (bif (okWp ⟨0, [], [], []⟩ nhealth_a0 ⟨1, (tfV true), [], []⟩) then (bif (decide ((32 : Int) < (((withP ⟨0, [], [], []⟩ nhealth_a0 ⟨1, (tfV true), [], []⟩).keys).length : Int))) then some [⟨.api_Node, (⟨0, [], [], []⟩ : Node)⟩, ⟨.api_Errno, (10 : Int)⟩] else (bif ((wg 10000 12) (⟨3, (withP ⟨0, [], [], []⟩ nhealth_a0 ⟨1, (tfV true), [], []⟩).text, (withP ⟨0, [], [], []⟩ nhealth_a0 ⟨1, (tfV true), [], []⟩).keys, (withP ⟨0, [], [], []⟩ nhealth_a0 ⟨1, (tfV true), [], []⟩).kids⟩ : Node)) then some [⟨.api_Node, (⟨((sortP 12) (⟨3, (withP ⟨0, [], [], []⟩ nhealth_a0 ⟨1, (tfV true), [], []⟩).text, (withP ⟨0, [], [], []⟩ nhealth_a0 ⟨1, (tfV true), [], []⟩).keys, (withP ⟨0, [], [], []⟩ nhealth_a0 ⟨1, (tfV true), [], []⟩).kids⟩ : Node)).kind, ((sortP 12) (⟨3, (withP ⟨0, [], [], []⟩ nhealth_a0 ⟨1, (tfV true), [], []⟩).text, (withP ⟨0, [], [], []⟩ nhealth_a0 ⟨1, (tfV true), [], []⟩).keys, (withP ⟨0, [], [], []⟩ nhealth_a0 ⟨1, (tfV true), [], []⟩).kids⟩ : Node)).text, ((sortP 12) (⟨3, (withP ⟨0, [], [], []⟩ nhealth_a0 ⟨1, (tfV true), [], []⟩).text, (withP ⟨0, [], [], []⟩ nhealth_a0 ⟨1, (tfV true), [], []⟩).keys, (withP ⟨0, [], [], []⟩ nhealth_a0 ⟨1, (tfV true), [], []⟩).kids⟩ : Node)).keys, ((sortP 12) (⟨3, (withP ⟨0, [], [], []⟩ nhealth_a0 ⟨1, (tfV true), [], []⟩).text, (withP ⟨0, [], [], []⟩ nhealth_a0 ⟨1, (tfV true), [], []⟩).keys, (withP ⟨0, [], [], []⟩ nhealth_a0 ⟨1, (tfV true), [], []⟩).kids⟩ : Node)).kids⟩ : Node)⟩, ⟨.api_Errno, (0 : Int)⟩] else none)) else none) else (bif (bif v11 then true else (decide ((32 : Int) < (((withP ⟨v7, v8, v9, v10⟩ nhealth_a6 ⟨1, (textV (pwholeV ((getV ⟨v12, v13, v14, v15⟩ nhealth_a6).text) 65536)), [], []⟩).keys).length : Int)))) then some [⟨.api_Node, (⟨0, [], [], []⟩ : Node)⟩, ⟨.api_Errno, (10 : Int)⟩] else (bif ((wg 10000 12) (⟨3, (withP ⟨v7, v8, v9, v10⟩ nhealth_a6 ⟨1, (textV (pwholeV ((getV ⟨v12, v13, v14, v15⟩ nhealth_a6).text) 65536)), [], []⟩).text, (withP ⟨v7, v8, v9, v10⟩ nhealth_a6 ⟨1, (textV (pwholeV ((getV ⟨v12, v13, v14, v15⟩ nhealth_a6).text) 65536)), [], []⟩).keys, (withP ⟨v7, v8, v9, v10⟩ nhealth_a6 ⟨1, (textV (pwholeV ((getV ⟨v12, v13, v14, v15⟩ nhealth_a6).text) 65536)), [], []⟩).kids⟩ : Node)) then some [⟨.api_Node, (⟨((sortP 12) (⟨3, (withP ⟨v7, v8, v9, v10⟩ nhealth_a6 ⟨1, (textV (pwholeV ((getV ⟨v12, v13, v14, v15⟩ nhealth_a6).text) 65536)), [], []⟩).text, (withP ⟨v7, v8, v9, v10⟩ nhealth_a6 ⟨1, (textV (pwholeV ((getV ⟨v12, v13, v14, v15⟩ nhealth_a6).text) 65536)), [], []⟩).keys, (withP ⟨v7, v8, v9, v10⟩ nhealth_a6 ⟨1, (textV (pwholeV ((getV ⟨v12, v13, v14, v15⟩ nhealth_a6).text) 65536)), [], []⟩).kids⟩ : Node)).kind, ((sortP 12) (⟨3, (withP ⟨v7, v8, v9, v10⟩ nhealth_a6 ⟨1, (textV (pwholeV ((getV ⟨v12, v13, v14, v15⟩ nhealth_a6).text) 65536)), [], []⟩).text, (withP ⟨v7, v8, v9, v10⟩ nhealth_a6 ⟨1, (textV (pwholeV ((getV ⟨v12, v13, v14, v15⟩ nhealth_a6).text) 65536)), [], []⟩).keys, (withP ⟨v7, v8, v9, v10⟩ nhealth_a6 ⟨1, (textV (pwholeV ((getV ⟨v12, v13, v14, v15⟩ nhealth_a6).text) 65536)), [], []⟩).kids⟩ : Node)).text, ((sortP 12) (⟨3, (withP ⟨v7, v8, v9, v10⟩ nhealth_a6 ⟨1, (textV (pwholeV ((getV ⟨v12, v13, v14, v15⟩ nhealth_a6).text) 65536)), [], []⟩).text, (withP ⟨v7, v8, v9, v10⟩ nhealth_a6 ⟨1, (textV (pwholeV ((getV ⟨v12, v13, v14, v15⟩ nhealth_a6).text) 65536)), [], []⟩).keys, (withP ⟨v7, v8, v9, v10⟩ nhealth_a6 ⟨1, (textV (pwholeV ((getV ⟨v12, v13, v14, v15⟩ nhealth_a6).text) 65536)), [], []⟩).kids⟩ : Node)).keys, ((sortP 12) (⟨3, (withP ⟨v7, v8, v9, v10⟩ nhealth_a6 ⟨1, (textV (pwholeV ((getV ⟨v12, v13, v14, v15⟩ nhealth_a6).text) 65536)), [], []⟩).text, (withP ⟨v7, v8, v9, v10⟩ nhealth_a6 ⟨1, (textV (pwholeV ((getV ⟨v12, v13, v14, v15⟩ nhealth_a6).text) 65536)), [], []⟩).keys, (withP ⟨v7, v8, v9, v10⟩ nhealth_a6 ⟨1, (textV (pwholeV ((getV ⟨v12, v13, v14, v15⟩ nhealth_a6).text) 65536)), [], []⟩).kids⟩ : Node)).kids⟩ : Node)⟩, ⟨.api_Errno, (0 : Int)⟩] else none)))) else none) else none) else (bif (!(bif (!(bif (bif (bif v17 then true else ((getV ⟨v12, v13, v14, v15⟩ nhealth_a6).kind != (1 : Int))) then true else ((pwholeE ((getV ⟨v12, v13, v14, v15⟩ nhealth_a6).text) 65536) != (0 : Int))) then true else (bif (getB ⟨v12, v13, v14, v15⟩ nhealth_a6) then ((pwholeV ((getV ⟨v12, v13, v14, v15⟩ nhealth_a6).text) 65536) == (0 : Int)) else false))) then ((w64 (v16 - (1 : Int))) == (0 : Int)) else false)) then some [⟨.api_Node, (⟨0, [], [], []⟩ : Node)⟩, ⟨.api_Errno, (10 : Int)⟩] else (bif v0 then (bif (okWp ⟨0, [], [], []⟩ nhealth_a0 ⟨1, (tfV true), [], []⟩) then (bif (decide ((32 : Int) < (((withP ⟨0, [], [], []⟩ nhealth_a0 ⟨1, (tfV true), [], []⟩).keys).length : Int))) then some [⟨.api_Node, (⟨0, [], [], []⟩ : Node)⟩, ⟨.api_Errno, (10 : Int)⟩] else (bif ((wg 10000 12) (⟨3, (withP ⟨0, [], [], []⟩ nhealth_a0 ⟨1, (tfV true), [], []⟩).text, (withP ⟨0, [], [], []⟩ nhealth_a0 ⟨1, (tfV true), [], []⟩).keys, (withP ⟨0, [], [], []⟩ nhealth_a0 ⟨1, (tfV true), [], []⟩).kids⟩ : Node)) then some [⟨.api_Node, (⟨((sortP 12) (⟨3, (withP ⟨0, [], [], []⟩ nhealth_a0 ⟨1, (tfV true), [], []⟩).text, (withP ⟨0, [], [], []⟩ nhealth_a0 ⟨1, (tfV true), [], []⟩).keys, (withP ⟨0, [], [], []⟩ nhealth_a0 ⟨1, (tfV true), [], []⟩).kids⟩ : Node)).kind, ((sortP 12) (⟨3, (withP ⟨0, [], [], []⟩ nhealth_a0 ⟨1, (tfV true), [], []⟩).text, (withP ⟨0, [], [], []⟩ nhealth_a0 ⟨1, (tfV true), [], []⟩).keys, (withP ⟨0, [], [], []⟩ nhealth_a0 ⟨1, (tfV true), [], []⟩).kids⟩ : Node)).text, ((sortP 12) (⟨3, (withP ⟨0, [], [], []⟩ nhealth_a0 ⟨1, (tfV true), [], []⟩).text, (withP ⟨0, [], [], []⟩ nhealth_a0 ⟨1, (tfV true), [], []⟩).keys, (withP ⟨0, [], [], []⟩ nhealth_a0 ⟨1, (tfV true), [], []⟩).kids⟩ : Node)).keys, ((sortP 12) (⟨3, (withP ⟨0, [], [], []⟩ nhealth_a0 ⟨1, (tfV true), [], []⟩).text, (withP ⟨0, [], [], []⟩ nhealth_a0 ⟨1, (tfV true), [], []⟩).keys, (withP ⟨0, [], [], []⟩ nhealth_a0 ⟨1, (tfV true), [], []⟩).kids⟩ : Node)).kids⟩ : Node)⟩, ⟨.api_Errno, (0 : Int)⟩] else none)) else none) else (bif (bif v11 then true else (decide ((32 : Int) < (v9.length : Int)))) then some [⟨.api_Node, (⟨0, [], [], []⟩ : Node)⟩, ⟨.api_Errno, (10 : Int)⟩] else (bif ((wg 10000 12) (⟨3, v8, v9, v10⟩ : Node)) then some [⟨.api_Node, (⟨((sortP 12) (⟨3, v8, v9, v10⟩ : Node)).kind, ((sortP 12) (⟨3, v8, v9, v10⟩ : Node)).text, ((sortP 12) (⟨3, v8, v9, v10⟩ : Node)).keys, ((sortP 12) (⟨3, v8, v9, v10⟩ : Node)).kids⟩ : Node)⟩, ⟨.api_Errno, (0 : Int)⟩] else none))))) else none) else none)) else none
theorem nhealth_l0_k_2_2 (G : Nat → ASt E → Option (List (TV E))) (v0 : Bool) (v1 : Int) (v2 : List UInt8) (v3 : List (List UInt8)) (v4 : List Node) (v5 : Int) (v6 : List UInt8) (v7 : Int) (v8 : List UInt8) (v9 : List (List UInt8)) (v10 : List Node) (v11 : Bool) (v12 : Int) (v13 : List UInt8) (v14 : List (List UInt8)) (v15 : List Node) (v16 : Int) (v17 : Bool) : runL nhealth_O nhealth_H G Tryz.f33 0 (nhealth_C0_k_2_2 v0 v1 v2 v3 v4 v5 v6 v7 v8 v9 v10 v11 v12 v13 v14 v15 v16 v17) = nhealth_t0_k_2_2 G v0 v1 v2 v3 v4 v5 v6 v7 v8 v9 v10 v11 v12 v13 v14 v15 v16 v17 := by kernel_rfl
theorem nhealth_f : Tryz.prog.funcs[33]? = some Tryz.f33 := by kernel_rfl
theorem nhealth_n : (Tryz.f33.name == "runtime.NumGoroutine") = false := by kernel_rfl
theorem nhealth_b : Tryz.f33.body.isNone = false := by kernel_rfl
theorem nhealth_hO : OracleOk E nhealth_O := withI_ok (orac_ok (.cons dcount_ok (.cons dgtext_ok (.cons dparse_ok (.cons dtext_ok (.cons nget_ok (.cons (ndsorted_ok 12) (.cons ntext_ok (.cons nwith_ok (.cons nsaid_ok (.cons ntest_ok .nil)))))))))) .nil .nil .nil) mix (.cons (f := 18) (fn := Tryz.f18) (by kernel_rfl) (by kernel_rfl) (by kernel_rfl) (.cons (f := 20) (fn := Tryz.f20) (by kernel_rfl) (by kernel_rfl) (by kernel_rfl) (.cons (f := 21) (fn := Tryz.f21) (by kernel_rfl) (by kernel_rfl) (by kernel_rfl) (.cons (f := 44) (fn := Tryz.f44) (by kernel_rfl) (by kernel_rfl) (by kernel_rfl) (.cons (f := 45) (fn := Tryz.f45) (by kernel_rfl) (by kernel_rfl) (by kernel_rfl) (.cons (f := 46) (fn := Tryz.f46) (by kernel_rfl) (by kernel_rfl) (by kernel_rfl) (.cons (f := 47) (fn := Tryz.f47) (by kernel_rfl) (by kernel_rfl) (by kernel_rfl) (.cons (f := 77) (fn := Tryz.f77) (by kernel_rfl) (by kernel_rfl) (by kernel_rfl) .nil))))))))
theorem nhealth_s0_k_2_0 {res : List (TV E)} {v0 : Bool} {v1 : Int} {v2 : List UInt8} {v3 : List (List UInt8)} {v4 : List Node} {v5 : Int} {v6 : List UInt8} {v7 : Int} {v8 : List UInt8} {v9 : List (List UInt8)} {v10 : List Node} {v11 : Bool} {v12 : Int} {v13 : List UInt8} {v14 : List (List UInt8)} {v15 : List Node} {v16 : Int} {v17 : Bool} (h : nhealth_t0_k_2_0 (Gr E Tryz.f33 res) v0 v1 v2 v3 v4 v5 v6 v7 v8 v9 v10 v11 v12 v13 v14 v15 v16 v17 = some res) : Ev E Tryz.f33 res 0 (nhealth_C0_k_2_0 v0 v1 v2 v3 v4 v5 v6 v7 v8 v9 v10 v11 v12 v13 v14 v15 v16 v17) := Ev.step nhealth_hO mix ((nhealth_l0_k_2_0 _ v0 v1 v2 v3 v4 v5 v6 v7 v8 v9 v10 v11 v12 v13 v14 v15 v16 v17).trans h)
theorem nhealth_s0_k_2_1 {res : List (TV E)} {v0 : Bool} {v1 : Int} {v2 : List UInt8} {v3 : List (List UInt8)} {v4 : List Node} {v5 : Int} {v6 : List UInt8} {v7 : Int} {v8 : List UInt8} {v9 : List (List UInt8)} {v10 : List Node} {v11 : Bool} {v12 : Int} {v13 : List UInt8} {v14 : List (List UInt8)} {v15 : List Node} {v16 : Int} {v17 : Bool} (h : nhealth_t0_k_2_1 (Gr E Tryz.f33 res) v0 v1 v2 v3 v4 v5 v6 v7 v8 v9 v10 v11 v12 v13 v14 v15 v16 v17 = some res) : Ev E Tryz.f33 res 0 (nhealth_C0_k_2_1 v0 v1 v2 v3 v4 v5 v6 v7 v8 v9 v10 v11 v12 v13 v14 v15 v16 v17) := Ev.step nhealth_hO mix ((nhealth_l0_k_2_1 _ v0 v1 v2 v3 v4 v5 v6 v7 v8 v9 v10 v11 v12 v13 v14 v15 v16 v17).trans h)
theorem nhealth_s0_k_2_2 {res : List (TV E)} {v0 : Bool} {v1 : Int} {v2 : List UInt8} {v3 : List (List UInt8)} {v4 : List Node} {v5 : Int} {v6 : List UInt8} {v7 : Int} {v8 : List UInt8} {v9 : List (List UInt8)} {v10 : List Node} {v11 : Bool} {v12 : Int} {v13 : List UInt8} {v14 : List (List UInt8)} {v15 : List Node} {v16 : Int} {v17 : Bool} (h : nhealth_t0_k_2_2 (Gr E Tryz.f33 res) v0 v1 v2 v3 v4 v5 v6 v7 v8 v9 v10 v11 v12 v13 v14 v15 v16 v17 = some res) : Ev E Tryz.f33 res 0 (nhealth_C0_k_2_2 v0 v1 v2 v3 v4 v5 v6 v7 v8 v9 v10 v11 v12 v13 v14 v15 v16 v17) := Ev.step nhealth_hO mix ((nhealth_l0_k_2_2 _ v0 v1 v2 v3 v4 v5 v6 v7 v8 v9 v10 v11 v12 v13 v14 v15 v16 v17).trans h)
theorem nhealth_ok_of (h : ∀ (x0 : Node), okH x0 = true → nhealth_t (Gr E Tryz.f33 [⟨.api_Node, hV x0⟩, ⟨.api_Errno, hE x0⟩]) x0 = some [⟨.api_Node, hV x0⟩, ⟨.api_Errno, hE x0⟩]) : FnOk E nhealth_id nhealth_W := fn12_ok nhealth_hO mix nhealth_f nhealth_n nhealth_b (fun x0 hk => (nhealth_e _ x0).trans (h x0 hk))
abbrev hRes (p : Node × Int) : List (TV E) := [⟨.api_Node, p.1⟩, ⟨.api_Errno, p.2⟩]
theorem dnR {q : Node} {L : Nat} (h : Gt q L) : (bif decide ((32 : Int) < (q.keys.length : Int)) then some ([⟨.api_Node, zn⟩, ⟨.api_Errno, (10 : Int)⟩] : List (TV E)) else (bif wg 10000 12 ⟨3, q.text, q.keys, q.kids⟩ then some [⟨.api_Node, sortP 12 ⟨3, q.text, q.keys, q.kids⟩⟩, ⟨.api_Errno, (0 : Int)⟩] else none)) = some (hRes (dnV q false, dnE q false)) := by
  unfold hRes dnV dnE
  cases hf : failB q false with
  | true =>
    have hf' : decide ((32 : Int) < (q.keys.length : Int)) = true := hf
    rw [hf']; rfl
  | false =>
    have hf' : decide ((32 : Int) < (q.keys.length : Int)) = false := hf
    rw [hf', h.wg hf]; rfl
theorem hEnd {off bad : Bool} {o : Node} {L : Nat} (h : Gt o L) : (bif bad then some ([⟨.api_Node, zn⟩, ⟨.api_Errno, (10 : Int)⟩] : List (TV E)) else (bif off then (bif decide ((32 : Int) < ((withP zn disK (saidV true)).keys.length : Int)) then some ([⟨.api_Node, zn⟩, ⟨.api_Errno, (10 : Int)⟩] : List (TV E)) else (bif wg 10000 12 ⟨3, (withP zn disK (saidV true)).text, (withP zn disK (saidV true)).keys, (withP zn disK (saidV true)).kids⟩ then some [⟨.api_Node, sortP 12 ⟨3, (withP zn disK (saidV true)).text, (withP zn disK (saidV true)).keys, (withP zn disK (saidV true)).kids⟩⟩, ⟨.api_Errno, (0 : Int)⟩] else none))
    else (bif decide ((32 : Int) < (o.keys.length : Int)) then some ([⟨.api_Node, zn⟩, ⟨.api_Errno, (10 : Int)⟩] : List (TV E)) else (bif wg 10000 12 ⟨3, o.text, o.keys, o.kids⟩ then some [⟨.api_Node, sortP 12 ⟨3, o.text, o.keys, o.kids⟩⟩, ⟨.api_Errno, (0 : Int)⟩] else none)))) = some (hRes (hFin off o bad)) := by
  unfold hFin
  cases bad with
  | true => rfl
  | false =>
    cases off with
    | true => exact dnR (Gt.nil.put (txt1_wg _))
    | false => exact dnR h
theorem nhealth_2 {n : Node} (hf : fit n = true) (hr : (fldV n retK zerS).length ≤ 1000000) (off : Bool) {o : Node} {L : Nat} (hg : Gt o L) (hL : L ≤ 100) (left : Int) (hl : -100 ≤ left ∧ left ≤ 2000000) (bad : Bool) :
    Ev E Tryz.f33 (hRes (hFin off (hRet n o) (bdR n bad || !(left - b2 (getB n retK) == 0)))) 0 (nhealth_C0_k_2_2 off n.kind n.text n.keys n.kids 0 [] o.kind o.text o.keys o.kids false n.kind n.text n.keys n.kids left bad) := by
  have k0 : nhealth_a0 = disK := rfl
  have k6 : nhealth_a6 = retK := rfl
  have hc := countV_eq (fldV n retK zerS) (most := 65536) (by decide)
  have hce := countE_eq (fldV n retK zerS) (most := 65536) (by decide)
  have hp : pokW (fldV n retK zerS) 65536 = true := pokW_iff.2 ⟨⟨hr, by decide⟩, by decide⟩
  have hbd := cnt_bd (fldV n retK zerS) 65536 (by decide)
  have hI : okI (hCnt n) = true := decide_eq_true (by unfold hCnt; omega)
  have hgp : Gt (withP o retK (txt1 (textV (hCnt n)))) (L + 1) := hg.put (txt1_wg _)
  have hw0 : okWp ⟨0, [], [], []⟩ disK ⟨1, tfV true, [], []⟩ = true := rfl
  have hw1 : ∀ v, okWp o retK v = true := fun v => hg.okW (by omega) retK v
  have ew : w64 (left - 1) = left - 1 := w64_id (by omega) (by omega)
  refine nhealth_s0_k_2_2 ?_
  simp only [nhealth_t0_k_2_2, k0, k6, node_eta, hf, cond_true]
  cases g : getB n retK with
  | false =>
    have ef : fldV n retK zerS = [48] := by unfold fldV; rw [g]; rfl
    have eb : fldB n retK [] = true := by unfold fldB; rw [g]; rfl
    rw [ef] at hc hce hp
    have h0 : hCnt n = 0 := by unfold hCnt; rw [ef]; decide
    have c0 : pwholeV [48] 65536 = 0 := by rw [hc]; decide
    have c1 : pwholeE [48] 65536 = 0 := by rw [hce]; decide
    have hfail : (!(bif !(bif (bif bad then true else false) then true else false) then left == 0 else false)) = (bdR n bad || !(left - b2 false == 0)) := by
      unfold bdR
      rw [g, eb, ef, h0, show cntE [48] 65536 = 0 by decide]
      show _ = (_ || !(left - 0 == 0))
      rw [Int.sub_zero]
      cases bad <;> cases left == 0 <;> rfl
    have ho : hRet n o = o := by unfold hRet; rw [h0]; rfl
    rw [ho]
    simp only [hp, c0, c1, Bool.not_false, cond_true, cond_false, show decide ((0 : Int) < 0) = false from rfl, show ((0 : Int) != 0) = false from rfl, hfail, hw0]
    exact hEnd hg
  | true =>
    have ef : fldV n retK zerS = (getV n retK).text := by unfold fldV; rw [g]; rfl
    have eb : fldB n retK [] = ((getV n retK).kind == 1) := by unfold fldB; rw [g]; rfl
    rw [ef] at hp
    have c0 : pwholeV (getV n retK).text 65536 = hCnt n := by unfold hCnt; rw [← hc, ef]
    have c1 : pwholeE (getV n retK).text 65536 = cntE (fldV n retK zerS) 65536 := by rw [← hce, ef]
    have hb2 : left - b2 true = left - 1 := rfl
    rw [hb2]
    simp only [hp, c0, c1, Bool.not_true, cond_true, cond_false, ew, hw0, hw1, hI]
    by_cases hpos : 0 < hCnt n
    · have hfail : (!(bif !(bif (bif (bif (bif bad then true else (getV n retK).kind != 1) then true else cntE (fldV n retK zerS) 65536 != 0) then true else hCnt n == 0) then true else decide ((10 : Int) < hCnt n)) then left - 1 == 0 else false)) = (bdR n bad || !(left - 1 == 0)) := by
        unfold bdR
        rw [g, eb]
        rw [show ((getV n retK).kind != 1) = !((getV n retK).kind == 1) from rfl]
        cases bad <;> cases (getV n retK).kind == 1 <;> cases cntE (fldV n retK zerS) 65536 != 0 <;> cases hCnt n == 0 <;> cases decide ((10 : Int) < hCnt n) <;> cases left - 1 == 0 <;> rfl
      have ho : hRet n o = withP o retK (txt1 (textV (hCnt n))) := by unfold hRet; rw [dT hpos]; rfl
      rw [ho, dT hpos]
      simp only [cond_true, hfail]
      exact hEnd hgp
    · have hfail : (!(bif !(bif (bif (bif bad then true else (getV n retK).kind != 1) then true else cntE (fldV n retK zerS) 65536 != 0) then true else hCnt n == 0) then left - 1 == 0 else false)) = (bdR n bad || !(left - 1 == 0)) := by
        unfold bdR
        rw [g, eb, dF (show ¬ (10 : Int) < hCnt n by omega)]
        rw [show ((getV n retK).kind != 1) = !((getV n retK).kind == 1) from rfl]
        cases bad <;> cases (getV n retK).kind == 1 <;> cases cntE (fldV n retK zerS) 65536 != 0 <;> cases hCnt n == 0 <;> cases left - 1 == 0 <;> rfl
      have ho : hRet n o = o := by unfold hRet; rw [dF hpos]; rfl
      rw [ho, dF hpos]
      simp only [cond_false, hfail]
      exact hEnd hg
theorem hPut_gt {n o : Node} {L : Nat} (h : Gt o L) (k : List UInt8) : Gt (hPut n k o) (L + 1) := by
  unfold hPut
  cases getB n k with
  | true => exact h.put (txt1_wg _)
  | false => exact ⟨h.kind, h.len, by have := h.le; simp only [cond_false]; omega, h.kids⟩
theorem b2_bd (b : Bool) : 0 ≤ b2 b ∧ b2 b ≤ 1 := by cases b <;> decide
theorem nhealth_1 {n : Node} (hf : fit n = true) (hs : (fldV n stpK oneS).length ≤ 1000000) (hr : (fldV n retK zerS).length ≤ 1000000) (off : Bool) {o : Node} {L : Nat} (hg : Gt o L) (hL : L ≤ 90) (left : Int) (hl : -90 ≤ left ∧ left ≤ 2000000) (bad : Bool) :
    Ev E Tryz.f33 (hRes (hFin off (hRet n (hPut n stpK o)) (bdR n (bdS n stpK bad) || !(left - b2 (getB n stpK) - b2 (getB n retK) == 0)))) 0 (nhealth_C0_k_2_1 off n.kind n.text n.keys n.kids 0 [] o.kind o.text o.keys o.kids false n.kind n.text n.keys n.kids left bad) := by
  have k5 : nhealth_a5 = stpK := rfl
  have hb := b2_bd (getB n stpK)
  have next := fun b => nhealth_2 (n := n) hf hr off (hPut_gt (n := n) hg stpK) (by omega) (left - b2 (getB n stpK)) (by omega) b
  have ok : okL1 (fldV n stpK oneS) = true := okL1_iff.2 hs
  have ew : w64 (left - 1) = left - 1 := w64_id (by omega) (by omega)
  have hw1 : ∀ v, okWp o stpK v = true := fun v => hg.okW (by omega) stpK v
  refine nhealth_s0_k_2_1 ?_
  simp only [nhealth_t0_k_2_1, k5, node_eta, hf, cond_true]
  cases g : getB n stpK with
  | false =>
    have ef : fldV n stpK oneS = [49, 115] := by unfold fldV; rw [g]; rfl
    have eb : fldB n stpK [] = true := by unfold fldB; rw [g]; rfl
    rw [ef] at ok
    have hbd : bdS n stpK bad = (bif (bif bad then true else durE [49, 115] != 0) then true else false) := by
      unfold bdS
      rw [eb, ef]
      cases bad <;> cases durE [49, 115] != 0 <;> rfl
    unfold hPut at next ⊢
    rw [g] at next
    rw [g, hbd]
    simp only [ok, Bool.not_false, cond_true, cond_false]
    have := next (bif (bif bad then true else durE [49, 115] != 0) then true else false)
    rw [show left - b2 false = left from Int.sub_zero left] at this
    rw [show left - b2 false = left from Int.sub_zero left]
    exact Gr_of this
  | true =>
    have ef : fldV n stpK oneS = (getV n stpK).text := by unfold fldV; rw [g]; rfl
    have eb : fldB n stpK [] = ((getV n stpK).kind == 1) := by unfold fldB; rw [g]; rfl
    rw [ef] at ok
    have hbd : bdS n stpK bad = (bif (bif (bif bad then true else (getV n stpK).kind != 1) then true else durE (getV n stpK).text != 0) then true else false) := by
      unfold bdS
      rw [eb, ef]
      rw [show ((getV n stpK).kind != 1) = !((getV n stpK).kind == 1) from rfl]
      cases bad <;> cases (getV n stpK).kind == 1 <;> cases durE (getV n stpK).text != 0 <;> rfl
    unfold hPut at next ⊢
    rw [g, ef] at next
    rw [g, ef, hbd]
    simp only [ok, Bool.not_true, cond_true, cond_false, ew, hw1]
    exact Gr_of (next (bif (bif (bif bad then true else (getV n stpK).kind != 1) then true else durE (getV n stpK).text != 0) then true else false))
theorem nhealth_0 {n : Node} (hf : fit n = true) (hi : (fldV n intK oneS).length ≤ 1000000) (hs : (fldV n stpK oneS).length ≤ 1000000) (hr : (fldV n retK zerS).length ≤ 1000000) (off : Bool) {o : Node} {L : Nat} (hg : Gt o L) (hL : L ≤ 80) (left : Int) (hl : -80 ≤ left ∧ left ≤ 2000000) (bad : Bool) :
    Ev E Tryz.f33 (hRes (hFin off (hRet n (hPut n stpK (hPut n intK o))) (bdR n (bdS n stpK (bdI n bad)) || !(left - b2 (getB n intK) - b2 (getB n stpK) - b2 (getB n retK) == 0)))) 0 (nhealth_C0_k_2_0 off n.kind n.text n.keys n.kids 0 [] o.kind o.text o.keys o.kids false n.kind n.text n.keys n.kids left bad) := by
  have k4 : nhealth_a4 = intK := rfl
  have hb := b2_bd (getB n intK)
  have next := fun b => nhealth_1 (n := n) hf hs hr off (hPut_gt (n := n) hg intK) (by omega) (left - b2 (getB n intK)) (by omega) b
  have ok : okL1 (fldV n intK oneS) = true := okL1_iff.2 hi
  have ew : w64 (left - 1) = left - 1 := w64_id (by omega) (by omega)
  have hw1 : ∀ v, okWp o intK v = true := fun v => hg.okW (by omega) intK v
  refine nhealth_s0_k_2_0 ?_
  simp only [nhealth_t0_k_2_0, k4, node_eta, hf, cond_true]
  cases g : getB n intK with
  | false =>
    have ef : fldV n intK oneS = [49, 115] := by unfold fldV; rw [g]; rfl
    have eb : fldB n intK [] = true := by unfold fldB; rw [g]; rfl
    rw [ef] at ok
    have hbd : bdI n bad = (bif (bif bad then true else durE [49, 115] != 0) then true else durV [49, 115] == 0) := by
      unfold bdI bdS
      rw [eb, ef]
      cases bad <;> cases durE [49, 115] != 0 <;> rfl
    unfold hPut at next ⊢
    rw [g] at next
    rw [g, hbd]
    simp only [ok, Bool.not_false, cond_true, cond_false] at next ⊢
    have := next (bif (bif bad then true else durE [49, 115] != 0) then true else durV [49, 115] == 0)
    rw [show left - b2 false = left from Int.sub_zero left] at this
    rw [show left - b2 false = left from Int.sub_zero left]
    exact Gr_of this
  | true =>
    have ef : fldV n intK oneS = (getV n intK).text := by unfold fldV; rw [g]; rfl
    have eb : fldB n intK [] = ((getV n intK).kind == 1) := by unfold fldB; rw [g]; rfl
    rw [ef] at ok
    have hbd : bdI n bad = (bif (bif (bif bad then true else (getV n intK).kind != 1) then true else durE (getV n intK).text != 0) then true else durV (getV n intK).text == 0) := by
      unfold bdI bdS
      rw [eb, ef]
      rw [show ((getV n intK).kind != 1) = !((getV n intK).kind == 1) from rfl]
    have e1 : hPut n intK o = withP o intK (txt1 (dtV (durV (getV n intK).text))) := by unfold hPut; rw [g, ef]; rfl
    rw [e1, hbd]
    rw [e1, g] at next
    simp only [ok, Bool.not_true, cond_true, cond_false, ew, hw1]
    exact Gr_of (next (bif (bif (bif bad then true else (getV n intK).kind != 1) then true else durE (getV n intK).text != 0) then true else durV (getV n intK).text == 0))
theorem nhealth_ok : FnOk E nhealth_id nhealth_W := nhealth_ok_of fun n hk => by
  obtain ⟨hf, h1, h2, h3, h4⟩ := okH_iff.1 hk
  have k0 : nhealth_a0 = disK := rfl
  have k1 : nhealth_a1 = tstK := rfl
  have k2 : nhealth_a2 = tru := rfl
  have k3 : nhealth_a3 = fls := rfl
  have n8 : nhealth_n8 n = n := node_eta n
  have n7 : nhealth_n7 = zn := rfl
  have hb := (fit_iff.1 hf).1.1
  have w1 : w64 ((n.keys.length : Int) - 1) = (n.keys.length : Int) - 1 := w64_id (by omega) (by omega)
  have w2 : w64 ((n.keys.length : Int) - 1 - 1) = (n.keys.length : Int) - 1 - 1 := w64_id (by omega) (by omega)
  have hwz : ∀ k v, okWp zn k v = true := fun _ _ => rfl
  have res : [⟨.api_Node, hV n⟩, ⟨.api_Errno, hE n⟩] = hRes (hFin (hOff n) (hRet n (hPut n stpK (hPut n intK (hTst n zn)))) (bdR n (bdS n stpK (bdI n (bdT n (bdD n)))) || !(((n.keys.length : Int) - b2 (getB n disK) - b2 (getB n tstK)) - b2 (getB n intK) - b2 (getB n stpK) - b2 (getB n retK) == 0))) := rfl
  have hgt : Gt (hTst n zn) 1 := by
    unfold hTst
    cases getB n tstK with
    | true => exact Gt.nil.put (txt1_wg _)
    | false => exact ⟨.inl rfl, rfl, Nat.zero_le _, fun y h => by cases h⟩
  have b1 := b2_bd (getB n disK)
  have b3 := b2_bd (getB n tstK)
  have next := nhealth_0 (n := n) hf h1 h2 h3 (hOff n) hgt (by decide) ((n.keys.length : Int) - b2 (getB n disK) - b2 (getB n tstK)) (by omega) (bdT n (bdD n))
  rw [res]
  simp only [nhealth_t, k0, k1, k2, k3, n8, n7, node_eta, hf, h4, hwz, cond_true, w1, w2]
  cases gd : getB n disK with
  | false =>
    have fd : fldV n disK fls = fls := by unfold fldV; rw [gd]; rfl
    have fb : fldB n disK [] = true := by unfold fldB; rw [gd]; rfl
    have hD : bdD n = (bif n.kind != 3 then true else false) := by
      unfold bdD
      rw [fb, fd]
      cases n.kind != 3 <;> rfl
    rw [gd] at next
    cases gt : getB n tstK with
    | false =>
      have hT : bdT n (bdD n) = (bif n.kind != 3 then true else false) := by unfold bdT; rw [gt, hD]; cases n.kind != 3 <;> rfl
      have ht : hTst n zn = zn := by unfold hTst; rw [gt]; rfl
      have ho : hOff n = false := by unfold hOff; rw [gt, fd]; rfl
      rw [gt, hT, ht, ho, show (n.keys.length : Int) - b2 false - b2 false = (n.keys.length : Int) by show (n.keys.length : Int) - 0 - 0 = _; omega] at next
      rw [hT, ht, ho, show (n.keys.length : Int) - b2 false - b2 false = (n.keys.length : Int) by show (n.keys.length : Int) - 0 - 0 = _; omega]
      exact Gr_of next
    | true =>
      have hT : bdT n (bdD n) = (bif (bif n.kind != 3 then true else false) then true else !(tsR (getV n tstK))) := by unfold bdT; rw [gt, hD]; cases n.kind != 3 <;> rfl
      have ht : hTst n zn = withP zn tstK (txt1 (tsS (getV n tstK))) := by unfold hTst; rw [gt]; rfl
      have ho : hOff n = tsN (getV n tstK) := by unfold hOff; rw [gt, fd]; rfl
      rw [gt, hT, ht, ho, show (n.keys.length : Int) - b2 false - b2 true = (n.keys.length : Int) - 1 by show (n.keys.length : Int) - 0 - 1 = _; omega] at next
      rw [hT, ht, ho, show (n.keys.length : Int) - b2 false - b2 true = (n.keys.length : Int) - 1 by show (n.keys.length : Int) - 0 - 1 = _; omega]
      exact Gr_of next
  | true =>
    have fd : fldV n disK fls = (getV n disK).text := by unfold fldV; rw [gd]; rfl
    have fb : fldB n disK [] = ((getV n disK).kind == 1) := by unfold fldB; rw [gd]; rfl
    have hD : bdD n = (bif (bif n.kind != 3 then true else (getV n disK).kind != 1) then true else (bif !((getV n disK).text == tru) then !((getV n disK).text == fls) else false)) := by
      unfold bdD ntf
      rw [fb, fd]
      rw [show ((getV n disK).kind != 1) = !((getV n disK).kind == 1) from rfl]
      cases n.kind != 3 <;> cases (getV n disK).kind == 1 <;> cases (getV n disK).text == tru <;> cases (getV n disK).text == fls <;> rfl
    rw [gd] at next
    cases gt : getB n tstK with
    | false =>
      have hT : bdT n (bdD n) = bdD n := by unfold bdT; rw [gt]; cases bdD n <;> rfl
      have ht : hTst n zn = zn := by unfold hTst; rw [gt]; rfl
      have ho : hOff n = ((getV n disK).text == tru) := by unfold hOff; rw [gt, fd]; cases (getV n disK).text == tru <;> rfl
      rw [gt, hT, hD, ht, ho, show (n.keys.length : Int) - b2 true - b2 false = (n.keys.length : Int) - 1 by show (n.keys.length : Int) - 1 - 0 = _; omega] at next
      rw [hT, hD, ht, ho, show (n.keys.length : Int) - b2 true - b2 false = (n.keys.length : Int) - 1 by show (n.keys.length : Int) - 1 - 0 = _; omega]
      exact Gr_of next
    | true =>
      have hT : bdT n (bdD n) = (bif bdD n then true else !(tsR (getV n tstK))) := by unfold bdT; rw [gt]; rfl
      have ht : hTst n zn = withP zn tstK (txt1 (tsS (getV n tstK))) := by unfold hTst; rw [gt]; rfl
      have ho : hOff n = (bif (getV n disK).text == tru then true else tsN (getV n tstK)) := by unfold hOff; rw [gt, fd]; rfl
      rw [gt, hT, hD, ht, ho, show (n.keys.length : Int) - b2 true - b2 true = (n.keys.length : Int) - 1 - 1 from rfl] at next
      rw [hT, hD, ht, ho, show (n.keys.length : Int) - b2 true - b2 true = (n.keys.length : Int) - 1 - 1 from rfl]
      exact Gr_of next
end Go.Proofs.YtgniedpgdjmfpaaGreatDoor.Rf
