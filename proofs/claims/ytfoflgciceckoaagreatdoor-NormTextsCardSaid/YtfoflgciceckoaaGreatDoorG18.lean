/- What the laws of chapter 18 share: the example; small nodes. -/
import Derived.Test.YtfoflgciceckoaaGreatDoorN12
namespace Go.Proofs.YtfoflgciceckoaaGreatDoor.Rf
open Go Go.RowKit Go.Sort Go.Proofs.YtfoflgciceckoaaGreatDoor.Mir
/-! ### What is small has kinds that there are -/
theorem left_kd : ∀ (n : Nat) (x : Node) (d l : Int), d + (n + 1 : Nat) = 14 → 0 ≤ leftV (n + 1) x d l → kd n x = true
  | n, x, d, l, hd, h => by
    unfold leftV at h
    cases h1 : badA x d (l - 1) with
    | true => rw [h1, cond_true] at h; omega
    | false =>
      cases h2 : badB x with
      | true => rw [h1, h2, cond_false, cond_true] at h; omega
      | false =>
        cases h3 : badC x (l - 1) with
        | true => rw [h1, h2, h3, cond_false, cond_false, cond_true] at h; omega
        | false =>
          rw [h1, h2, h3, cond_false, cond_false, cond_false] at h
          have hA : ¬ 12 < d ∧ 0 ≤ x.kind ∧ x.kind ≤ 3 := by
            unfold badA at h1
            refine ⟨fun a => ?_, ?_⟩
            · rw [dT a] at h1
              cases hx : decide (l - 1 < 0) <;> rw [hx] at h1 <;> cases h1
            · by_cases a : x.kind < 0
              · rw [dT a] at h1
                cases hx : decide (l - 1 < 0) <;> cases hy : decide (12 < d) <;> rw [hx, hy] at h1 <;> cases h1
              · by_cases b : 3 < x.kind
                · rw [dT b] at h1
                  cases hx : decide (l - 1 < 0) <;> cases hy : decide (12 < d) <;> cases hz : decide (x.kind < 0) <;> rw [hx, hy, hz] at h1 <;> cases h1
                · omega
          obtain ⟨m, rfl⟩ : ∃ m, n = m + 1 := ⟨n - 1, by omega⟩
          obtain ⟨q1, q2⟩ := kidsV_le (fun k l h => leftV_le (m + 1) k (d + 1) l h) x.kids (l - 1) h
          have hrec : ∀ y ∈ x.kids, kd m y = true := fun y hy => by
            obtain ⟨l', h4, h5⟩ := q2 y hy
            exact left_kd m y (d + 1) l' (by omega) h4
          have hB : (x.kind ≠ 3 → x.keys.length = 0) ∧ (x.kind < 2 → x.kids.length = 0) := by
            unfold badB at h2
            constructor
            · intro e
              by_cases a1 : (0 : Int) < (x.keys.length : Int)
              · rw [neT e, dT a1] at h2
                cases hx : (bif x.kind != 1 then decide ((0 : Int) < (x.text.length : Int)) else false) <;> rw [hx] at h2 <;> cases h2
              · omega
            · intro e
              by_cases a1 : (0 : Int) < (x.kids.length : Int)
              · rw [dT e, dT a1] at h2
                cases hx : (bif x.kind != 1 then decide ((0 : Int) < (x.text.length : Int)) else false) <;> cases hy : (bif x.kind != 3 then decide ((0 : Int) < (x.keys.length : Int)) else false) <;> rw [hx, hy] at h2 <;> cases h2
              · omega
          exact kd_iff.2 ⟨⟨hA.2, hB.1⟩, hB.2, hrec⟩
  termination_by n => n
theorem small_nd_ {x : Node} {m : Int} (hm : m ≤ 200) (h : smallV x m = true) : okNd 12 x = true := by
  have hw := small_wf hm h
  unfold smallV at h
  by_cases h0 : 0 ≤ leftV 13 x 1 m
  · simp only [okNd, hw, left_kd 12 x 1 m (by decide) h0, Bool.and_self]
  · rw [dF h0] at h; cases h
theorem small_nd {x : Node} (h : smallV x 200 = true) : okNd 12 x = true := small_nd_ (by decide) h
theorem sameW_refl {f : Node → Node → Bool} : ∀ (l : List Node), (∀ x ∈ l, f x x = true) → sameW f l l = true
  | [], _ => rfl
  | a :: t, h => by
    unfold sameW
    rw [h a List.mem_cons_self, sameW_refl t fun x hx => h x (List.mem_cons_of_mem _ hx)]
    rfl
theorem same_refl : ∀ (n : Nat) (x : Node), dp n x = true → same n x x = true
  | 0, _, h => by cases h
  | n + 1, x, h => by
    unfold same
    rw [sameW_refl x.kids fun y hy => same_refl n y ((dp_iff.1 h).2 y hy)]
    simp
theorem zn_wg12 : wg 10000 12 zn = true := zn_wg 11
theorem okS_wg {a : Node} (h : wg 10000 12 a = true) : okS 12 a a = true := by simp only [okS, wg_dp (by decide) h, Bool.and_self]
noncomputable def awake_W : FnW E := fn0 (E := E) .bool true true
def awake_id : FuncId := 5
noncomputable def awake_O : Oracle E := orac [(9, nports_W)] [] [] []
noncomputable def awake_H : Hint E := Hint.mk [] [] [] [] []
noncomputable def awake_t (_G : Nat → ASt E → Option (List (TV E)))  : Option (List (TV E)) :=
  bif (okPo (⟨(2 : Int), ([] : List UInt8), ([] : List (List UInt8)), ([(⟨(1 : Int), ([56, 48, 56, 48, 58, 56, 48] : List UInt8), ([] : List (List UInt8)), ([] : List Node)⟩ : Node)] : List Node)⟩ : Node)) then (bif (okPo (⟨(1 : Int), ([56, 48, 56, 48, 58, 56, 48] : List UInt8), ([] : List (List UInt8)), ([] : List Node)⟩ : Node)) then (bif ((decide ((0 : Int) ≤ (0 : Int)) && decide ((0 : Int) < (((poV (⟨(2 : Int), ([] : List UInt8), ([] : List (List UInt8)), ([(⟨(1 : Int), ([56, 48, 56, 48, 58, 56, 48] : List UInt8), ([] : List (List UInt8)), ([] : List Node)⟩ : Node)] : List Node)⟩ : Node)).keys).length : Int))) || !(bif ((poE (⟨(2 : Int), ([] : List UInt8), ([] : List (List UInt8)), ([(⟨(1 : Int), ([56, 48, 56, 48, 58, 56, 48] : List UInt8), ([] : List (List UInt8)), ([] : List Node)⟩ : Node)] : List Node)⟩ : Node)) == (0 : Int)) then ((((poV (⟨(2 : Int), ([] : List UInt8), ([] : List (List UInt8)), ([(⟨(1 : Int), ([56, 48, 56, 48, 58, 56, 48] : List UInt8), ([] : List (List UInt8)), ([] : List Node)⟩ : Node)] : List Node)⟩ : Node)).keys).length : Int) == (1 : Int)) else false)) then some [⟨.bool, (bif (bif (bif ((poE (⟨(2 : Int), ([] : List UInt8), ([] : List (List UInt8)), ([(⟨(1 : Int), ([56, 48, 56, 48, 58, 56, 48] : List UInt8), ([] : List (List UInt8)), ([] : List Node)⟩ : Node)] : List Node)⟩ : Node)) == (0 : Int)) then ((((poV (⟨(2 : Int), ([] : List UInt8), ([] : List (List UInt8)), ([(⟨(1 : Int), ([56, 48, 56, 48, 58, 56, 48] : List UInt8), ([] : List (List UInt8)), ([] : List Node)⟩ : Node)] : List Node)⟩ : Node)).keys).length : Int) == (1 : Int)) else false) then ((List.getD ((poV (⟨(2 : Int), ([] : List UInt8), ([] : List (List UInt8)), ([(⟨(1 : Int), ([56, 48, 56, 48, 58, 56, 48] : List UInt8), ([] : List (List UInt8)), ([] : List Node)⟩ : Node)] : List Node)⟩ : Node)).keys) (Int.toNat (0 : Int)) (dflt .str)) == ([56, 48, 56, 48, 58, 56, 48] : List UInt8)) else false) then ((poE (⟨(1 : Int), ([56, 48, 56, 48, 58, 56, 48] : List UInt8), ([] : List (List UInt8)), ([] : List Node)⟩ : Node)) == (10 : Int)) else false)⟩] else none) else none) else none
theorem awake_e (G : Nat → ASt E → Option (List (TV E)))  : runE awake_O awake_H G Tryz.f5 [] = awake_t G  := by kernel_rfl
theorem awake_f : Tryz.prog.funcs[5]? = some Tryz.f5 := by kernel_rfl
theorem awake_n : (Tryz.f5.name == "runtime.NumGoroutine") = false := by kernel_rfl
theorem awake_b : Tryz.f5.body.isNone = false := by kernel_rfl
theorem awake_ex : ∃ fn, Tryz.prog.funcs[5]? = some fn ∧ (fn.name == "runtime.NumGoroutine") = false ∧ fn.body.isNone = false := ⟨Tryz.f5, awake_f, awake_n, awake_b⟩
theorem awake_hO : OracleOk E awake_O := orac_ok (.cons nports_ok .nil) .nil .nil .nil
theorem awake_ok_of (h : awake_t (Gr E Tryz.f5 [⟨.bool, true ⟩])  = some [⟨.bool, true ⟩]) : FnOk E awake_id awake_W := fn0_ok awake_hO mix awake_f awake_n awake_b (fun _ => (awake_e _).trans h)
theorem awake_ok : FnOk E awake_id awake_W := awake_ok_of <| by
  have e : awake_t (Gr E Tryz.f5 [⟨.bool, true⟩]) = some [⟨.bool, true⟩] := by kernel_rfl
  exact e
end Go.Proofs.YtfoflgciceckoaaGreatDoor.Rf