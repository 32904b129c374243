/- 'GoalNone' of chapter 37, closed: what the law's function computes (by the Mirror) gives the given statement, without conditions. -/
import Derived.Test.YtoibjelpldfpfaaGreatDoorGz11
import Derived.Test.YtoibjelpldfpfaaGreatDoorGz3
import Derived.Deep.Slices
import Derived.ChangeSame
import Derived.ChangeArms
import Derived.Test.YtoibjelpldfpfaaGreatDoorCards
import Derived.Test.YtoibjelpldfpfaaGreatDoorTie
import Derived.WalkKit
import Derived.ProofKit
import Derived.OpenShut
import Derived.ChangeOld
import Derived.Below
import Derived.Carry
import Derived.Lay
import Derived.LaidMore
import Derived.SevenTiedAt
import Derived.Stop.Joined
namespace Go.Proofs.YtoibjelpldfpfaaGreatDoor.Rf
open Go Go.RowKit Go.Proofs.YtoibjelpldfpfaaGreatDoor.Mir
noncomputable def awake_W : FnW E := fn0 (E := E) .bool true true
def awake_id : FuncId := 18
noncomputable def awake_tr : List (FuncId × Func) := [(20, Tryz.f20), (46, Tryz.f46), (47, Tryz.f47), (48, Tryz.f48), (49, Tryz.f49), (59, Tryz.f59), (60, Tryz.f60), (62, Tryz.f62), (84, Tryz.f84), (86, Tryz.f86), (114, Tryz.f114), (115, Tryz.f115), (154, Tryz.f154), (155, Tryz.f155), (161, Tryz.f161), (163, Tryz.f163), (195, Tryz.f195), (199, Tryz.f199), (224, Tryz.f224), (225, Tryz.f225), (266, Tryz.f266), (299, Tryz.f299), (308, Tryz.f308), (309, Tryz.f309)]
noncomputable def awake_ti : List (FuncId × Func) := [(7, Tryz.f7), (8, Tryz.f8), (9, Tryz.f9), (28, Tryz.f28), (36, Tryz.f36), (39, Tryz.f39), (54, Tryz.f54), (55, Tryz.f55), (56, Tryz.f56), (58, Tryz.f58), (80, Tryz.f80), (82, Tryz.f82), (83, Tryz.f83), (88, Tryz.f88), (89, Tryz.f89), (110, Tryz.f110), (111, Tryz.f111), (153, Tryz.f153), (174, Tryz.f174), (196, Tryz.f196), (197, Tryz.f197), (204, Tryz.f204), (223, Tryz.f223), (234, Tryz.f234), (268, Tryz.f268), (269, Tryz.f269), (300, Tryz.f300), (316, Tryz.f316)]
noncomputable def awake_hs : List (FuncId × Hint E) := [(7, ({ rounds := 100 } : Hint E)), (8, ({ rounds := 100 } : Hint E)), (9, ({ rounds := 100 } : Hint E)), (20, ({ rounds := 100, opn := [(13, [3])] } : Hint E)), (28, ({ rounds := 100 } : Hint E)), (36, ({ rounds := 100 } : Hint E)), (39, ({ rounds := 100 } : Hint E)), (46, ({ rounds := 100 } : Hint E)), (47, ({ rounds := 100, opn := [(17, [12])] } : Hint E)), (48, ({ rounds := 100 } : Hint E)), (54, ({ rounds := 100 } : Hint E)), (55, ({ rounds := 100 } : Hint E)), (56, ({ rounds := 100 } : Hint E)), (58, ({ rounds := 100 } : Hint E)), (59, ({ rounds := 100 } : Hint E)), (60, ({ rounds := 100 } : Hint E)), (62, ({ rounds := 100 } : Hint E)), (80, ({ rounds := 100 } : Hint E)), (82, ({ rounds := 100 } : Hint E)), (83, ({ rounds := 100 } : Hint E)), (84, ({ rounds := 100 } : Hint E)), (86, ({ rounds := 100 } : Hint E)), (88, ({ rounds := 100 } : Hint E)), (89, ({ rounds := 100 } : Hint E)), (110, ({ rounds := 100 } : Hint E)), (111, ({ rounds := 100 } : Hint E)), (115, ({ rounds := 100 } : Hint E)), (153, ({ rounds := 100 } : Hint E)), (163, ({ rounds := 100 } : Hint E)), (174, ({ rounds := 100 } : Hint E)), (195, ({ rounds := 100 } : Hint E)), (197, ({ rounds := 100 } : Hint E)), (199, ({ rounds := 100 } : Hint E)), (204, ({ rounds := 100 } : Hint E)), (223, ({ rounds := 100 } : Hint E)), (225, ({ rounds := 100 } : Hint E)), (234, ({ rounds := 100 } : Hint E)), (266, ({ rounds := 100 } : Hint E)), (268, ({ rounds := 100 } : Hint E)), (269, ({ rounds := 100 } : Hint E)), (299, ({ rounds := 100 } : Hint E)), (300, ({ rounds := 100 } : Hint E)), (308, ({ rounds := 100 } : Hint E)), (309, ({ rounds := 100 } : Hint E)), (316, ({ rounds := 100 } : Hint E))]
noncomputable def awake_B : Oracle E := (withC (orac [(53, lnode_W), (19, d19_W), (34, d34_W), (162, d162_W), (57, d57_W), (206, d206_W), (208, d208_W), (30, nsortedk_W), (81, d81_W), (152, d152_W), (120, nplace_W), (222, d222_W), (85, sprint_W), (50, d50_W), (61, d61_W), (198, concat_W), (25, d25_W), (298, sctn_W), (253, d253_W), (205, sidxb_W)] [(21, cloneF 9)] [] [(227, .api_Node)]) cc_id cc_T)
theorem awake_tr_ok : TblOk Tryz.prog awake_tr := .cons Tryz.func20 (by kernel_rfl) (by kernel_rfl) <| .cons Tryz.func46 (by kernel_rfl) (by kernel_rfl) <| .cons Tryz.func47 (by kernel_rfl) (by kernel_rfl) <| .cons Tryz.func48 (by kernel_rfl) (by kernel_rfl) <| .cons Tryz.func49 (by kernel_rfl) (by kernel_rfl) <| .cons Tryz.func59 (by kernel_rfl) (by kernel_rfl) <| .cons Tryz.func60 (by kernel_rfl) (by kernel_rfl) <| .cons Tryz.func62 (by kernel_rfl) (by kernel_rfl) <| .cons Tryz.func84 (by kernel_rfl) (by kernel_rfl) <| .cons Tryz.func86 (by kernel_rfl) (by kernel_rfl) <| .cons Tryz.func114 (by kernel_rfl) (by kernel_rfl) <| .cons Tryz.func115 (by kernel_rfl) (by kernel_rfl) <| .cons Tryz.func154 (by kernel_rfl) (by kernel_rfl) <| .cons Tryz.func155 (by kernel_rfl) (by kernel_rfl) <| .cons Tryz.func161 (by kernel_rfl) (by kernel_rfl) <| .cons Tryz.func163 (by kernel_rfl) (by kernel_rfl) <| .cons Tryz.func195 (by kernel_rfl) (by kernel_rfl) <| .cons Tryz.func199 (by kernel_rfl) (by kernel_rfl) <| .cons Tryz.func224 (by kernel_rfl) (by kernel_rfl) <| .cons Tryz.func225 (by kernel_rfl) (by kernel_rfl) <| .cons Tryz.func266 (by kernel_rfl) (by kernel_rfl) <| .cons Tryz.func299 (by kernel_rfl) (by kernel_rfl) <| .cons Tryz.func308 (by kernel_rfl) (by kernel_rfl) <| .cons Tryz.func309 (by kernel_rfl) (by kernel_rfl) <| .nil
theorem awake_ti_ok : TblOk Tryz.prog awake_ti := .cons Tryz.func7 (by kernel_rfl) (by kernel_rfl) <| .cons Tryz.func8 (by kernel_rfl) (by kernel_rfl) <| .cons Tryz.func9 (by kernel_rfl) (by kernel_rfl) <| .cons Tryz.func28 (by kernel_rfl) (by kernel_rfl) <| .cons Tryz.func36 (by kernel_rfl) (by kernel_rfl) <| .cons Tryz.func39 (by kernel_rfl) (by kernel_rfl) <| .cons Tryz.func54 (by kernel_rfl) (by kernel_rfl) <| .cons Tryz.func55 (by kernel_rfl) (by kernel_rfl) <| .cons Tryz.func56 (by kernel_rfl) (by kernel_rfl) <| .cons Tryz.func58 (by kernel_rfl) (by kernel_rfl) <| .cons Tryz.func80 (by kernel_rfl) (by kernel_rfl) <| .cons Tryz.func82 (by kernel_rfl) (by kernel_rfl) <| .cons Tryz.func83 (by kernel_rfl) (by kernel_rfl) <| .cons Tryz.func88 (by kernel_rfl) (by kernel_rfl) <| .cons Tryz.func89 (by kernel_rfl) (by kernel_rfl) <| .cons Tryz.func110 (by kernel_rfl) (by kernel_rfl) <| .cons Tryz.func111 (by kernel_rfl) (by kernel_rfl) <| .cons Tryz.func153 (by kernel_rfl) (by kernel_rfl) <| .cons Tryz.func174 (by kernel_rfl) (by kernel_rfl) <| .cons Tryz.func196 (by kernel_rfl) (by kernel_rfl) <| .cons Tryz.func197 (by kernel_rfl) (by kernel_rfl) <| .cons Tryz.func204 (by kernel_rfl) (by kernel_rfl) <| .cons Tryz.func223 (by kernel_rfl) (by kernel_rfl) <| .cons Tryz.func234 (by kernel_rfl) (by kernel_rfl) <| .cons Tryz.func268 (by kernel_rfl) (by kernel_rfl) <| .cons Tryz.func269 (by kernel_rfl) (by kernel_rfl) <| .cons Tryz.func300 (by kernel_rfl) (by kernel_rfl) <| .cons Tryz.func316 (by kernel_rfl) (by kernel_rfl) <| .nil
theorem awake_B_ok : OracleOk E awake_B := (withC_ok (orac_ok (.cons lnode_ok (.cons d19_ok (.cons d34_ok (.cons d162_ok (.cons d57_ok (.cons d206_ok (.cons d208_ok (.cons nsortedk_ok (.cons d81_ok (.cons d152_ok (.cons nplace_ok (.cons d222_ok (.cons sprint_ok (.cons d50_ok (.cons d61_ok (.cons concat_ok (.cons d25_ok (.cons sctn_ok (.cons d253_ok (.cons sidxb_ok .nil)))))))))))))))))))) (.cons (clone_fresh (T := 23) (b := 4) (e := 9) (fn := Tryz.f21) (by kernel_rfl) (by kernel_rfl) (by kernel_rfl) (by kernel_rfl) (by kernel_rfl) (by kernel_rfl)) .nil) .nil (.cons grown_gok .nil)) cc_ex cc_ok)
noncomputable def awake_V : Oracle E × Rnd E := lev awake_B awake_tr awake_ti awake_hs { rounds := 100 } 40
theorem awake_V_ok : OracleOk E awake_V.1 ∧ RndOk E awake_V.2 := lev_ok awake_B_ok mix awake_tr_ok awake_ti_ok 40
theorem awake_e : Mir.runT awake_V.1 awake_V.2 { rounds := 100 } Tryz.f18 [] = some [⟨.bool, true⟩] := by kernel_rfl
theorem awake_ok : FnOk E awake_id awake_W := fn0_calls ⟨Tryz.f18, by kernel_rfl, by kernel_rfl, by kernel_rfl⟩ fun _ => runT_ok awake_V_ok.1 awake_V_ok.2 mix (by kernel_rfl) awake_e
end Go.Proofs.YtoibjelpldfpfaaGreatDoor.Rf
namespace Go.Proofs.YtoibjelpldfpfaaGreatDoor.Rf
open Go Go.RowKit Go.Proofs.YtoibjelpldfpfaaGreatDoor.Mir
noncomputable def law_W : FnW E := fn2 (E := E) .str .int .bool (fun _ _ => true) (fun _ _ => true)
def law_id : FuncId := 3
noncomputable def law_tr : List (FuncId × Func) := [(4, Tryz.f4), (5, Tryz.f5), (6, Tryz.f6), (7, Tryz.f7), (8, Tryz.f8), (9, Tryz.f9), (10, Tryz.f10), (11, Tryz.f11), (12, Tryz.f12), (13, Tryz.f13), (14, Tryz.f14), (15, Tryz.f15), (16, Tryz.f16), (17, Tryz.f17), (20, Tryz.f20), (32, Tryz.f32), (33, Tryz.f33), (35, Tryz.f35), (42, Tryz.f42), (43, Tryz.f43), (44, Tryz.f44), (45, Tryz.f45)]
noncomputable def law_ti : List (FuncId × Func) := [(22, Tryz.f22), (23, Tryz.f23), (26, Tryz.f26), (27, Tryz.f27), (28, Tryz.f28), (29, Tryz.f29), (31, Tryz.f31), (39, Tryz.f39)]
noncomputable def law_hs : List (FuncId × Hint E) := [(7, ({ rounds := 10 } : Hint E)), (8, ({ rounds := 10 } : Hint E)), (9, ({ rounds := 10 } : Hint E)), (13, ({ rounds := 10 } : Hint E)), (16, ({ rounds := 10 } : Hint E)), (20, ({ rounds := 10, opn := [(13, [3])] } : Hint E)), (22, ({ rounds := 10 } : Hint E)), (26, ({ rounds := 10 } : Hint E)), (27, ({ rounds := 10 } : Hint E)), (28, ({ rounds := 10 } : Hint E)), (31, ({ rounds := 10 } : Hint E)), (39, ({ rounds := 10 } : Hint E)), (42, ({ rounds := 10 } : Hint E)), (43, ({ rounds := 10 } : Hint E)), (44, ({ rounds := 10 } : Hint E)), (45, ({ rounds := 10 } : Hint E))]
noncomputable def law_B : Oracle E := (orac [(19, d19_W), (18, awake_W), (34, d34_W), (30, nsortedk_W), (38, d38_W), (25, d25_W)] [(24, cloneF 36), (21, cloneF 9)] [] [])
theorem law_tr_ok : TblOk Tryz.prog law_tr := .cons Tryz.func4 (by kernel_rfl) (by kernel_rfl) <| .cons Tryz.func5 (by kernel_rfl) (by kernel_rfl) <| .cons Tryz.func6 (by kernel_rfl) (by kernel_rfl) <| .cons Tryz.func7 (by kernel_rfl) (by kernel_rfl) <| .cons Tryz.func8 (by kernel_rfl) (by kernel_rfl) <| .cons Tryz.func9 (by kernel_rfl) (by kernel_rfl) <| .cons Tryz.func10 (by kernel_rfl) (by kernel_rfl) <| .cons Tryz.func11 (by kernel_rfl) (by kernel_rfl) <| .cons Tryz.func12 (by kernel_rfl) (by kernel_rfl) <| .cons Tryz.func13 (by kernel_rfl) (by kernel_rfl) <| .cons Tryz.func14 (by kernel_rfl) (by kernel_rfl) <| .cons Tryz.func15 (by kernel_rfl) (by kernel_rfl) <| .cons Tryz.func16 (by kernel_rfl) (by kernel_rfl) <| .cons Tryz.func17 (by kernel_rfl) (by kernel_rfl) <| .cons Tryz.func20 (by kernel_rfl) (by kernel_rfl) <| .cons Tryz.func32 (by kernel_rfl) (by kernel_rfl) <| .cons Tryz.func33 (by kernel_rfl) (by kernel_rfl) <| .cons Tryz.func35 (by kernel_rfl) (by kernel_rfl) <| .cons Tryz.func42 (by kernel_rfl) (by kernel_rfl) <| .cons Tryz.func43 (by kernel_rfl) (by kernel_rfl) <| .cons Tryz.func44 (by kernel_rfl) (by kernel_rfl) <| .cons Tryz.func45 (by kernel_rfl) (by kernel_rfl) <| .nil
theorem law_ti_ok : TblOk Tryz.prog law_ti := .cons Tryz.func22 (by kernel_rfl) (by kernel_rfl) <| .cons Tryz.func23 (by kernel_rfl) (by kernel_rfl) <| .cons Tryz.func26 (by kernel_rfl) (by kernel_rfl) <| .cons Tryz.func27 (by kernel_rfl) (by kernel_rfl) <| .cons Tryz.func28 (by kernel_rfl) (by kernel_rfl) <| .cons Tryz.func29 (by kernel_rfl) (by kernel_rfl) <| .cons Tryz.func31 (by kernel_rfl) (by kernel_rfl) <| .cons Tryz.func39 (by kernel_rfl) (by kernel_rfl) <| .nil
theorem law_B_ok : OracleOk E law_B := (orac_ok (.cons d19_ok (.cons awake_ok (.cons d34_ok (.cons nsortedk_ok (.cons d38_ok (.cons d25_ok .nil)))))) (.cons (clone_fresh (T := 22) (b := 4) (e := 36) (fn := Tryz.f24) (by kernel_rfl) (by kernel_rfl) (by kernel_rfl) (by kernel_rfl) (by kernel_rfl) (by kernel_rfl)) (.cons (clone_fresh (T := 23) (b := 4) (e := 9) (fn := Tryz.f21) (by kernel_rfl) (by kernel_rfl) (by kernel_rfl) (by kernel_rfl) (by kernel_rfl) (by kernel_rfl)) .nil)) .nil .nil)
noncomputable def law_V : Oracle E × Rnd E := lev law_B law_tr law_ti law_hs { rounds := 10, lst := [999999] } 20
theorem law_V_ok : OracleOk E law_V.1 ∧ RndOk E law_V.2 := lev_ok law_B_ok mix law_tr_ok law_ti_ok 20
theorem law_e (x0 : List UInt8) (x1 : Int) : Mir.runT law_V.1 law_V.2 { rounds := 10 } Tryz.f3 [⟨.str, x0⟩, ⟨.int, x1⟩] = some [⟨.bool, true⟩] := by kernel_rfl
theorem law_ok : FnOk E law_id law_W := fn2_calls ⟨Tryz.f3, by kernel_rfl, by kernel_rfl, by kernel_rfl⟩ fun x0 x1 _ => runT_ok law_V_ok.1 law_V_ok.2 mix (by kernel_rfl) (law_e x0 x1)
end Go.Proofs.YtoibjelpldfpfaaGreatDoor.Rf
namespace Go.Proofs.YtoibjelpldfpfaaGreatDoor.Mir
open Go Go.RowKit Go.Deep
noncomputable section
def below (w : World) : Nat → Nat → Prop := fun k _ => k < w.heap.size
section
variable {P : Program} {E : Env P}
def Opens (E : Env P) (T : TypeId) (R : List (DVal E.Den) → Prop) : Prop :=
  ∀ {H : Type} (enc : TypeId × Value → H) (w : World) (base : Nat) (spare : Nat → Bool) (held : Bool) (fuel : Nat) (cs : List Value) (x : DataW H × List MemPlace), DataW.trod enc P w base spare held fuel T cs = some x →
    ∃ ds, R ds ∧ cs.length = ds.length ∧ ∀ (j : Nat) v d, cs[j]? = some v → ds[j]? = some d → DRep E w (below w) v d
def OpensT (E : Env P) (t : E.Ty) : Prop := Opens E (E.tid t) fun ds => ∃ x, ds = E.cells t x
theorem one_cell {w : World} {v : Value} {d : DVal E.Den} (h : DRep E w (below w) v d) : ∀ (j : Nat) u e, [v][j]? = some u → [d][j]? = some e → DRep E w (below w) u e := by
  intro j u e hu he
  cases j with
  | zero => simp at hu he; subst hu; subst he; exact h
  | succ j => simp at hu
theorem opens_int {T : TypeId} {k : IntKind} (hT : P.underlying T = some (.int k)) : Opens E T fun ds => ∃ n, ds = [.int k n] := by
  intro H enc w base spare held fuel cs x h
  obtain ⟨n, rfl, _, _⟩ := DataW.trod_int hT h
  exact ⟨[.int k n], ⟨n, rfl⟩, rfl, one_cell (.int k n)⟩
theorem opens_str {T : TypeId} (hT : P.underlying T = some .string) : Opens E T fun ds => ∃ s : List UInt8, ds = [.str s] ∧ s.length ≤ maxLen := by
  intro H enc w base spare held fuel cs x h
  obtain ⟨s, rfl, _, hs⟩ := DataW.trod_string hT h
  refine ⟨[.str s.data.toList], ⟨_, rfl, by rw [Array.length_toList]; exact hs⟩, rfl, one_cell ?_⟩
  have := DRep.str (E := E) (w := w) (ro := below w) s.data.toList
  simpa using this
theorem Opens.mono {T : TypeId} {R R' : List (DVal E.Den) → Prop} (h : Opens E T R) (hR : ∀ ds, R ds → R' ds) : Opens E T R' := by
  intro H enc w base spare held fuel cs x hx
  obtain ⟨ds, h1, h2⟩ := h enc w base spare held fuel cs x hx
  exact ⟨ds, hR ds h1, h2⟩
theorem arg_rep {H : Type} {enc : TypeId × Value → H} {w : World} {base : Nat} {spare : Nat → Bool} {held : Bool} {t : E.Ty} (ho : OpensT E t) {v : Value} {d : DataW H} {p : List MemPlace} (hsh : (E.agg t = true ∧ ∃ vs, v = .agg vs) ∨ (E.agg t = false ∧ v.cells = #[v]))
    (h : DataW.Trod enc P w base spare held (E.tid t) v d p) : ∃ x, TRep E w (below w) v t x := by
  obtain ⟨fuel, h⟩ := h
  obtain ⟨ds, ⟨x, rfl⟩, hl, hd⟩ := ho enc w base spare held fuel _ _ h
  refine ⟨x, ?_⟩
  rcases hsh with ⟨ha, vs, rfl⟩ | ⟨ha, hv⟩
  · exact .inl ⟨ha, vs, rfl, by simpa [Value.cells] using hl, fun j u e hu he => hd j u e (by simpa [Value.cells] using hu) he⟩
  · rw [hv] at hl hd
    obtain ⟨c, hc⟩ := single_of_len ((E.cells_len t x).trans (E.one t ha))
    refine .inr ⟨ha, c, hc, hd 0 v c rfl (by rw [hc]; rfl)⟩
end
end
end Go.Proofs.YtoibjelpldfpfaaGreatDoor.Mir
namespace Go.Proofs.YtoibjelpldfpfaaGreatDoor.Mir
open Go Go.RowKit Go.Deep
noncomputable section
section
variable {P : Program} {E : Env P}
def OpensB (E : Env P) (b : Nat) (T : TypeId) (R : List (DVal E.Den) → Prop) : Prop :=
  ∀ {H : Type} (enc : TypeId × Value → H) (w : World) (base : Nat) (spare : Nat → Bool) (held : Bool) (fuel : Nat) (cs : List Value) (x : DataW H × List MemPlace), fuel < b → DataW.trod enc P w base spare held fuel T cs = some x →
    ∃ ds, R ds ∧ cs.length = ds.length ∧ ∀ (j : Nat) v d, cs[j]? = some v → ds[j]? = some d → DRep E w (below w) v d
theorem OpensB.mono {b : Nat} {T : TypeId} {R R' : List (DVal E.Den) → Prop} (h : OpensB E b T R) (hR : ∀ ds, R ds → R' ds) : OpensB E b T R' := fun enc w base spare held fuel cs x hfb hx => by
  obtain ⟨ds, h1, h2⟩ := h enc w base spare held fuel cs x hfb hx
  exact ⟨ds, hR ds h1, h2⟩
end
end
end Go.Proofs.YtoibjelpldfpfaaGreatDoor.Mir
namespace Go.Proofs.YtoibjelpldfpfaaGreatDoor.Rf
open Go Go.ChangeShapes Go.WideShapes Go.ChangeAt Go.RowKit Go.Proofs.YtoibjelpldfpfaaGreatDoor.Mir
theorem opn_str : OpensT E .str := Opens.mono (E := E) (opens_str (T := 9) (by kernel_rfl)) fun _ ⟨n, h, _⟩ => ⟨n, h⟩
theorem opn_int : OpensT E .int := Opens.mono (E := E) (opens_int (T := 3) (k := .i64) (by kernel_rfl)) fun _ ⟨n, h⟩ => ⟨n, h⟩
theorem own : ownKnob Tryz.prog.godebug = none := by kernel_rfl
theorem laidOut : laidOutB Tryz.prog = true := by kernel_rfl
theorem ret_bool {w : World} {ro : Nat → Nat → Prop} {v : Value} {b : Bool} (h : RetRep E w ro v [⟨.bool, b⟩]) : v = .bool b := by
  rcases h with ⟨ha, _⟩ | ⟨_, c, hc, hd⟩
  · cases ha
  · have e : c = .bool b := by
      have : ([.bool b] : List (DVal E.Den)) = [c] := hc
      simpa using this.symm
    subst e
    cases hd
    rfl
set_option maxRecDepth 100000 in
theorem lifted (os : Os) (started : os.Started) (H : Type) (enc : TypeId × Value → H) :
    ReturnsInHanded {} Tryz.checked os 3 .any (fun w args => (Rows.goalNoneSpec.pre enc Tryz.prog Tryz.f3 Rows.goalNoneRow.domain false w args ∧ laidMetH Tryz.prog Rows.goalNoneRow.laid w) ∧ sizedMet enc Tryz.prog Tryz.f3 (OpenSpec.ofChange Rows.goalNoneSpec) false w args) (Rows.goalNoneSpec.post enc Tryz.prog Tryz.f3 false true false false) := by
  refine returnsInHanded_of_change_and (C := Tryz.checked) (X := fun w _ => laidMetH Tryz.prog Rows.goalNoneRow.laid w) (fun _ _ _ hh h => h.of_heap hh) own started (by kernel_rfl) Tryz.func3
    (ChangeSpec.witness_shaped (enc := enc) (C := Tryz.checked) (os := os) (X := fun w _ => laidMetH Tryz.prog Rows.goalNoneRow.laid w) false (World.laidAll Tryz.prog os Rows.goalNoneRow.laid) #[.string ⟨#[]⟩, .int .i64 0] 8 (World.laidAll_os _ _ _)
      (World.shaped_of_ZipB (by kernel_rfl) (by kernel_rfl)) (by kernel_rfl) (by kernel_rfl) (by kernel_rfl)
      (by rw [MakeChecks.laidMetH_plain _ _ _ (by kernel_rfl)]; exact laidMet_laidAll _ (by kernel_rfl) (by kernel_rfl))) ?_
  intro W base args ds gs before hval0 hW _ _ hL _
  have hval : ∀ (j : Nat) t v, Tryz.f3.params[j]? = some t → args[j]? = some v → Value.okWide Tryz.prog W .any base t v := hval0
  have hW' := hW
  obtain ⟨p, q, hA0, hV, rfl, hfz, hnd⟩ := hW
  have hA : DataW.TrodAll enc Tryz.prog W 0 (fun _ => true) true Tryz.f3.params.toList args.toList ds p := hA0
  rw [Tryz.params3] at hA hval
  obtain ⟨v0, vs0, d0, ds0, p0, q0, hargs, rfl, rfl, h0, r0⟩ := trodAll_cons hA
  obtain ⟨v1, vs1, d1, ds1, p1, q1, rfl, rfl, rfl, h1, r1⟩ := trodAll_cons r0
  obtain ⟨rfl, rfl, rfl⟩ := trodAll_nil r1
  obtain rfl : args = #[v0, v1] := by cases args; simp_all
  obtain ⟨rfl, rfl⟩ := trodVars_none hV
  obtain ⟨s0, rfl⟩ := okWide_string Tryz.underlying9 (hval 0 9 v0 rfl rfl)
  obtain ⟨n1, rfl⟩ := okWide_int Tryz.underlying3 (hval 1 3 v1 rfl rfl)
  have lt0 : ∀ x ∈ p0, x.block < W.heap.size := by obtain ⟨m, hm⟩ := h0; exact DataW.trod_lt m _ _ _ hm
  have lt1 : ∀ x ∈ p1, x.block < W.heap.size := by obtain ⟨m, hm⟩ := h1; exact DataW.trod_lt m _ _ _ hm
  obtain ⟨x0, t0⟩ := arg_rep (E := E) (t := .str) opn_str (.inr ⟨rfl, rfl⟩) h0
  obtain ⟨x1, t1⟩ := arg_rep (E := E) (t := .int) opn_int (.inr ⟨rfl, rfl⟩) h1
  clear hA0 hval0
  refine (law_ok.2 [⟨.str, x0⟩, ⟨.int, x1⟩] [⟨.bool, true⟩] rfl W (below W) [_, _] ⟨t0, t1, trivial⟩ (fun _ _ h => h)).mono fun e W' ⟨v, he, bel, hret⟩ => ?_
  have hv := ret_bool hret
  subst hv
  subst he
  exact ⟨_, rfl, _, _, _, [], _, [], hW', trodAll_mk1 (shut_bool Tryz.underlying4 _),
    (trodAll_cons_mk (Below.trod laidOut (by kernel_rfl) (of_decide_eq_true (by kernel_rfl)) h0 bel lt0) (trodAll_cons_mk (Below.trod laidOut (by kernel_rfl) (of_decide_eq_true (by kernel_rfl)) h1 bel lt1) trodAll_mk0)), rfl, bel.frame _, fun h => by cases h⟩
theorem over : Rows.goalNoneRow.holds Tryz.pinned (OpenSpec.ofChange Rows.goalNoneSpec) :=
  OpenClaim.holds_of_wide 3 Tryz.f3 rfl rfl rfl rfl rfl rfl rfl ⟨rfl, rfl, rfl, rfl, rfl⟩ rfl rfl rfl rfl rfl (by kernel_rfl) Tryz.func3 (by kernel_rfl)
    (of_decide_eq_true (by kernel_rfl)) (by unfold Func.isWrapper; first | (rw [if_pos (by decide +kernel)]; kernel_rfl) | (rw [if_neg (by decide +kernel)]; exact ⟨rfl, rfl⟩))
    (fun os started H enc _ => lifted os started H enc)
theorem goalNone_proved : Rows.GoalNoneCardSaid :=
  Claim7.holds_tied_plain_at .later [] [.data, .pinned] true (true, "dcf524ad8d652c48e31bdfc1595d3242a34fd7a1eacaa9ea9a7ec2fd1327748e") false over (fun _ h => by cases h) (by kernel_rfl) (fun _ h => by cases h) goalNone_row_tie rfl ⟨rfl, rfl⟩ (by kernel_rfl) rfl
    (fun f fn hf hfn => by
      obtain rfl : f = 3 := Option.some.inj ((show Tryz.prog.funcNamed "longshore/longshorelaw37.GoalNone" = some 3 by kernel_rfl).symm.trans hf) |>.symm
      obtain rfl : fn = Tryz.f3 := (Option.some.inj (Tryz.func3.symm.trans hfn)).symm
      exact ⟨by kernel_rfl, fun j t ht => by
        rw [Tryz.params3] at ht
        have hm : t ∈ [9, 3] := by simpa using Array.mem_of_getElem? ht
        have hall : ([9, 3].all fun u => !Tryz.prog.wantsStandIn u) = true := by kernel_rfl
        exact (show Tryz.prog.wantsStandIn t = false by simpa using List.all_eq_true.1 hall t hm)⟩)
    (by kernel_rfl)
#print axioms goalNone_proved
end Go.Proofs.YtoibjelpldfpfaaGreatDoor.Rf
