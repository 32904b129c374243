/- 'NormTexts' of chapter 18, closed: what the law's function computes (by the Mirror) gives the given statement (the row's card, tied to the program's text), without conditions. -/
import Derived.Test.YtfoflgciceckoaaGreatDoorT10
import Derived.Test.YtfoflgciceckoaaGreatDoorMirV
import Derived.Test.YtfoflgciceckoaaGreatDoorCards
import Derived.Test.YtfoflgciceckoaaGreatDoorTie
import Derived.WalkKit
import Derived.ProofKit
import Derived.OpenShut
import Derived.ChangeOld
import Derived.Below
import Derived.Carry
import Derived.Lay
import Derived.LaidMore
import Derived.SevenTiedAt
import Derived.Stop.Joined
namespace Go.Proofs.YtfoflgciceckoaaGreatDoor.Rf
open Go Go.ChangeShapes Go.WideShapes Go.ChangeAt Go.RowKit Go.Proofs.YtfoflgciceckoaaGreatDoor.Mir
theorem opn_int : OpensT E .int := Opens.mono (E := E) (opens_int (T := 3) (k := .i64) (by kernel_rfl)) fun _ ⟨n, h⟩ => ⟨n, h⟩
theorem opn_str : OpensT E .str := Opens.mono (E := E) (opens_str (T := 9) (by kernel_rfl)) fun _ ⟨n, h, _⟩ => ⟨n, h⟩
theorem opn_l_str : OpensT E .l_str := Opens.mono (E := E) (opens_slice (E := E) (T := 22) (t := .str) (by kernel_rfl) opn_str (by kernel_rfl)) fun _ ⟨l, h⟩ => ⟨l, h⟩
set_option maxRecDepth 100000 in
theorem opn_api_Node : OpensT E .api_Node := opensB_all fun b => by
  induction b with
  | zero => exact opensB_zero
  | succ b ih => exact OpensB.mono (E := E) (opensB_struct (E := E) (Rs := [(fun ds => ∃ x, ds = E.cells .int x), (fun ds => ∃ x, ds = E.cells .str x), (fun ds => ∃ x, ds = E.cells .l_str x), (fun ds => ∃ x, ds = E.cells .l_api_Node x)]) Tryz.underlying25 ⟨by kernel_rfl, opensB_of opn_int, by kernel_rfl, opensB_of opn_str, by kernel_rfl, opensB_of opn_l_str, by kernel_rfl, OpensB.mono (opensB_slice (E := E) (T := 23) (t := .api_Node) (by kernel_rfl) ih (by kernel_rfl)) fun _ ⟨l, h⟩ => ⟨l, h⟩, (by kernel_rfl : 0 + Tryz.prog.cellsOf 3 + Tryz.prog.cellsOf 9 + Tryz.prog.cellsOf 22 + Tryz.prog.cellsOf 23 = Tryz.prog.cellsOf 25)⟩) fun _ ⟨_, _, ⟨x0, h0⟩, g0, _, _, ⟨x1, h1⟩, g1, _, _, ⟨x2, h2⟩, g2, _, _, ⟨x3, h3⟩, g3, g4⟩ => ⟨(⟨x0, x1, x2, x3⟩ : Node), by rw [g0, h0, g1, h1, g2, h2, g3, h3, g4]; rfl⟩
theorem own : ownKnob Tryz.prog.godebug = none := by kernel_rfl
theorem laidOut : laidOutB Tryz.prog = true := by kernel_rfl
/-- One result, a bool. -/
theorem ret_bool {w : World} {ro : Nat → Nat → Prop} {v : Value} {b : Bool} (h : RetRep E w ro v [⟨.bool, b⟩]) : v = .bool b := by
  rcases h with ⟨ha, _⟩ | ⟨_, c, hc, hd⟩
  · cases ha
  · have e : c = .bool b := by
      have : ([.bool b] : List (DVal E.Den)) = [c] := hc
      simpa using this.symm
    subst e
    cases hd
    rfl

set_option maxRecDepth 100000 in
theorem lifted (os : Os) (started : os.Started) (H : Type) (enc : TypeId × Value → H) :
    ReturnsInHanded {} Tryz.checked os 3 .any (fun w args => (Rows.normTextsSpec.pre enc Tryz.prog Tryz.f3 Rows.normTextsRow.domain false w args ∧ laidMetH Tryz.prog Rows.normTextsRow.laid w) ∧ sizedMet enc Tryz.prog Tryz.f3 (OpenSpec.ofChange Rows.normTextsSpec) false w args) (Rows.normTextsSpec.post enc Tryz.prog Tryz.f3 false true false false) := by
  refine returnsInHanded_of_change_and (C := Tryz.checked) (X := fun w _ => laidMetH Tryz.prog Rows.normTextsRow.laid w) (fun _ _ _ hh h => h.of_heap hh) own started (by kernel_rfl) Tryz.func3
    (ChangeSpec.witness_shaped (enc := enc) (C := Tryz.checked) (os := os) (X := fun w _ => laidMetH Tryz.prog Rows.normTextsRow.laid w) false (World.laidAll Tryz.prog os Rows.normTextsRow.laid) #[.agg #[.int .i64 0, .string ⟨#[]⟩, .slice none 0 0, .slice none 0 0]] 8 (World.laidAll_os _ _ _)
      (World.shaped_of_ZipB (by kernel_rfl) (by kernel_rfl)) (by kernel_rfl) (by kernel_rfl) (by kernel_rfl)
      (by rw [MakeChecks.laidMetH_plain _ _ _ (by kernel_rfl)]; exact laidMet_laidAll _ (by kernel_rfl) (by kernel_rfl))) ?_
  intro W base args ds gs before hval0 hW _ _ hL _
  have hval : ∀ (j : Nat) t v, Tryz.f3.params[j]? = some t → args[j]? = some v → Value.okWide Tryz.prog W .any base t v := hval0
  have hW' := hW
  obtain ⟨p, q, hA0, hV, rfl, hfz, hnd⟩ := hW
  have hA : DataW.TrodAll enc Tryz.prog W 0 (fun _ => true) true Tryz.f3.params.toList args.toList ds p := hA0
  rw [Tryz.params3] at hA hval
  obtain ⟨v0, vs0, d0, ds0, p0, q0, hargs, rfl, rfl, h0, r0⟩ := trodAll_cons hA
  obtain ⟨rfl, rfl, rfl⟩ := trodAll_nil r0
  obtain rfl : args = #[v0] := by cases args; simp_all
  obtain ⟨rfl, rfl⟩ := trodVars_none hV
  obtain ⟨cs0, rfl, _⟩ := okWide_struct Tryz.underlying25 (hval 0 25 v0 rfl rfl)
  have lt0 : ∀ x ∈ p0, x.block < W.heap.size := by obtain ⟨m, hm⟩ := h0; exact DataW.trod_lt m _ _ _ hm
  obtain ⟨x0, t0⟩ := arg_rep (E := E) (t := .api_Node) opn_api_Node (.inl ⟨rfl, _, rfl⟩) h0
  clear hA0 hval0
  refine (law_ok.2 [⟨.api_Node, x0⟩] [⟨.bool, true⟩] rfl W (below W) [_] ⟨t0, trivial⟩ (fun _ _ h => h)).mono fun e W' ⟨v, he, bel, hret⟩ => ?_
  have hv := ret_bool hret
  subst hv
  subst he
  exact ⟨_, rfl, _, _, _, [], _, [], hW', trodAll_mk1 (shut_bool Tryz.underlying4 _),
    (trodAll_cons_mk (Below.trod laidOut (by kernel_rfl) (of_decide_eq_true (by kernel_rfl)) h0 bel lt0) trodAll_mk0), rfl, bel.frame _, fun h => by cases h⟩

theorem over : Rows.normTextsRow.holds Tryz.pinned (OpenSpec.ofChange Rows.normTextsSpec) :=
  OpenClaim.holds_of_wide 3 Tryz.f3 rfl rfl rfl rfl rfl rfl rfl ⟨rfl, rfl, rfl, rfl, rfl⟩ rfl rfl rfl rfl rfl (by kernel_rfl) Tryz.func3 (by kernel_rfl)
    (of_decide_eq_true (by kernel_rfl)) (by unfold Func.isWrapper; first | (rw [if_pos (by decide +kernel)]; kernel_rfl) | (rw [if_neg (by decide +kernel)]; exact ⟨rfl, rfl⟩))
    (fun os started H enc _ => lifted os started H enc)

/-- THE STATEMENT: the row's card, tied to the program's text (the tie is given). -/
theorem normTexts_proved : Rows.NormTextsCardSaid :=
  Claim7.holds_tied_plain_at .later [] [.data, .pinned] true (true, "01cf94780511f5f69e2dddf20e35e6f6a6c21bff029d7bc4c83bf1b65602e03a") false over (fun _ h => by cases h) (by kernel_rfl) (fun _ h => by cases h) normTexts_row_tie rfl ⟨rfl, rfl⟩ (by kernel_rfl) rfl
    (fun f fn hf hfn => by
      obtain rfl : f = 3 := Option.some.inj ((show Tryz.prog.funcNamed "longshore/longshorelaw18.NormTexts" = some 3 by kernel_rfl).symm.trans hf) |>.symm
      obtain rfl : fn = Tryz.f3 := (Option.some.inj (Tryz.func3.symm.trans hfn)).symm
      exact ⟨by kernel_rfl, fun j t ht => by
        rw [Tryz.params3] at ht
        have hm : t ∈ [25] := by simpa using Array.mem_of_getElem? ht
        have hall : ([25].all fun u => !Tryz.prog.wantsStandIn u) = true := by kernel_rfl
        exact (show Tryz.prog.wantsStandIn t = false by simpa using List.all_eq_true.1 hall t hm)⟩)
    (by kernel_rfl)
#print axioms normTexts_proved
end Go.Proofs.YtfoflgciceckoaaGreatDoor.Rf