/- 'WaveJoins' of chapter 29, closed: what the law's function computes (by the Mirror) gives the given statement, without conditions. -/
import Derived.Test.YtnkdghkliihnaaaWave
import Derived.Test.YtnkdghkliihnaaaMirS
import Derived.WalkKit
import Derived.ProofKit
import Derived.OpenShut
import Derived.ChangeOld
import Derived.Below
import Derived.Carry
namespace Go.Proofs.Ytnkdghkliihnaaa.Wv
open Go Go.ChangeShapes Go.WideShapes Go.ChangeAt Go.RowKit Go.Proofs.Ytnkdghkliihnaaa.Mir
theorem opn_bool : OpensT E .bool := Opens.mono (E := E) (opens_bool (T := 4) (by kernel_rfl)) fun _ ⟨n, h⟩ => ⟨n, h⟩
theorem opn_l_bool : OpensT E .l_bool := Opens.mono (E := E) (opens_slice (E := E) (T := 22) (t := .bool) (by kernel_rfl) opn_bool (by kernel_rfl)) fun _ ⟨l, h⟩ => ⟨l, h⟩
theorem opn_int : OpensT E .int := Opens.mono (E := E) (opens_int (T := 3) (k := .i64) (by kernel_rfl)) fun _ ⟨n, h⟩ => ⟨n, h⟩
theorem own : ownKnob Try.prog.godebug = none := by kernel_rfl
theorem laidOut : laidOutB Try.prog = true := by kernel_rfl
/-- One result, a bool. -/
theorem ret_bool {w : World} {ro : Nat → Nat → Prop} {v : Value} {b : Bool} (h : RetRep E w ro v [⟨.bool, b⟩]) : v = .bool b := by
  rcases h with ⟨ha, _⟩ | ⟨_, c, hc, hd⟩
  · cases ha
  · have e : c = .bool b := by
      have : ([.bool b] : List (DVal E.Den)) = [c] := hc
      simpa using this.symm
    subst e
    cases hd
    rfl

set_option maxRecDepth 100000 in
theorem lifted (os : Os) (started : os.Started) (H : Type) (enc : TypeId × Value → H) :
    ReturnsInHanded {} Try.checked os 6 .any (Rows.waveJoinsSpec.pre6 enc Try.prog Try.f6 Rows.waveJoinsRow.domain false) (Rows.waveJoinsSpec.post enc Try.prog Try.f6 false true false false) := by
  refine returnsInHanded_of_change (C := Try.checked) own started (by kernel_rfl) Try.func6
    (ChangeSpec.witness6 (enc := enc) (C := Try.checked) false ⟨#[], #[.slice none 0 0, .slice none 0 0, .int .i64 0], []⟩ 8 (by kernel_rfl) (by kernel_rfl) (by kernel_rfl) (by kernel_rfl)) ?_
  intro W base args ds gs before hval0 hW hcnd _
  have hval : ∀ (j : Nat) t v, Try.f6.params[j]? = some t → args[j]? = some v → Value.okWide Try.prog W .any base t v := hval0
  have hW' := hW
  obtain ⟨p, q, hA0, hV, rfl, hfz, hnd⟩ := hW
  have hA : DataW.TrodAll enc Try.prog W 0 (fun _ => true) true Try.f6.params.toList args.toList ds p := hA0
  rw [Try.params6] at hA hval
  obtain ⟨v0, vs0, d0, ds0, p0, q0, hargs, rfl, rfl, h0, r0⟩ := trodAll_cons hA
  obtain ⟨v1, vs1, d1, ds1, p1, q1, rfl, rfl, rfl, h1, r1⟩ := trodAll_cons r0
  obtain ⟨v2, vs2, d2, ds2, p2, q2, rfl, rfl, rfl, h2, r2⟩ := trodAll_cons r1
  obtain ⟨rfl, rfl, rfl⟩ := trodAll_nil r2
  obtain rfl : args = #[v0, v1, v2] := by cases args; simp_all
  obtain ⟨rfl, rfl⟩ := trodVars_none hV
  obtain ⟨a0, len0, cap0, rfl⟩ := okWide_slice Try.underlying22 (hval 0 22 v0 rfl rfl)
  obtain ⟨a1, len1, cap1, rfl⟩ := okWide_slice Try.underlying22 (hval 1 22 v1 rfl rfl)
  obtain ⟨n2, rfl⟩ := okWide_int Try.underlying3 (hval 2 3 v2 rfl rfl)
  have lt0 : ∀ x ∈ p0, x.block < W.heap.size := by obtain ⟨m, hm⟩ := h0; exact DataW.trod_lt m _ _ _ hm
  have lt1 : ∀ x ∈ p1, x.block < W.heap.size := by obtain ⟨m, hm⟩ := h1; exact DataW.trod_lt m _ _ _ hm
  have lt2 : ∀ x ∈ p2, x.block < W.heap.size := by obtain ⟨m, hm⟩ := h2; exact DataW.trod_lt m _ _ _ hm
  obtain ⟨x0, t0⟩ := arg_rep (E := E) (t := .l_bool) opn_l_bool (.inr ⟨rfl, rfl⟩) h0
  obtain ⟨x1, t1⟩ := arg_rep (E := E) (t := .l_bool) opn_l_bool (.inr ⟨rfl, rfl⟩) h1
  obtain ⟨x2, t2⟩ := arg_rep (E := E) (t := .int) opn_int (.inr ⟨rfl, rfl⟩) h2
  clear hA0 hval0
  refine (ljoins_ok.2 [⟨.l_bool, x0⟩, ⟨.l_bool, x1⟩, ⟨.int, x2⟩] [⟨.bool, true⟩] rfl W (below W) [_, _, _] ⟨t0, t1, t2, trivial⟩ (fun _ _ h => h)).mono fun e W' ⟨v, he, bel, hret⟩ => ?_
  have hv := ret_bool hret
  subst hv
  subst he
  exact ⟨_, rfl, _, _, _, [], _, [], hW', trodAll_mk1 (shut_bool Try.underlying4 _),
    (trodAll_cons_mk (Below.trod laidOut (by kernel_rfl) (of_decide_eq_true (by kernel_rfl)) h0 bel lt0) (trodAll_cons_mk (Below.trod laidOut (by kernel_rfl) (of_decide_eq_true (by kernel_rfl)) h1 bel lt1) (trodAll_cons_mk (Below.trod laidOut (by kernel_rfl) (of_decide_eq_true (by kernel_rfl)) h2 bel lt2) trodAll_mk0))), rfl, bel.frame _, fun h => by cases h⟩

theorem over : Rows.waveJoinsRow.holds Try.pinned (OpenSpec.ofChange Rows.waveJoinsSpec) :=
  OpenClaim.holds_of_wide 6 Try.f6 rfl rfl rfl rfl rfl rfl rfl ⟨rfl, rfl, rfl, rfl, rfl⟩ rfl rfl rfl rfl rfl (by kernel_rfl) Try.func6 (by kernel_rfl)
    (of_decide_eq_true (by kernel_rfl)) (by unfold Func.isWrapper; first | (rw [if_pos (by decide +kernel)]; kernel_rfl) | (rw [if_neg (by decide +kernel)]; exact ⟨rfl, rfl⟩))
    (fun os started H enc _ => lifted os started H enc)

/-- THE STATEMENT. -/
theorem waveJoins_proved : Rows.WaveJoinsSaid := over
#print axioms waveJoins_proved
end Go.Proofs.Ytnkdghkliihnaaa.Wv
