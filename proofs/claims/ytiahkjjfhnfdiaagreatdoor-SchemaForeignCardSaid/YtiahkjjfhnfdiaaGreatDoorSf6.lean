/- Part 6 of a proof: the texts I3 I4 M2 T1 T2 T3 T4 T5 T6 T7 T8 T9 T10 T11 T12 T13 T14 T15 T16 T17, one behind the other. -/
import Derived.Test.YtiahkjjfhnfdiaaGreatDoorSf5
import Derived.WalkKit
namespace Go.Proofs.YtiahkjjfhnfdiaaGreatDoor.Rf
open Go Go.RowKit Go.Sort Go.Proofs.YtiahkjjfhnfdiaaGreatDoor.Mir
section
noncomputable def itX : Code := match (Tryz.f174).body with
  | some (.seq (.seq _ (.cond _ x _)) _) => x
  | _ => .skip
theorem it_body : (Tryz.f174).body = some (.seq (.seq (.region 0 (i35 0) false) (.cond (.tmp 11) itX .skip)) (.seq (.block 2 (.loop itL)) (.region 10 (i35 10) false))) := by kernel_rfl
theorem r0_e (l : Nat) (rest : List UInt8) : evSeq itO (i35 0) 52 (tm0 l) (i35 0).toList [] (mob rest) 5 (pk [11, 0, 1, 2, 3] [0, 1, 2, 3] 20) = some ⟨52, (11, .d (.bool false)) :: tm0 l, mob rest, 20⟩ := by kernel_rfl
theorem r10_e (l : Nat) (rest : List UInt8) : evSeq itO (i35 10) 52 (tm0 l) ((i35 10).toList.take 2) [] (mob rest) 40 (pk [49, 50] [0, 1, 2, 3] 50) = some ⟨52, [(49, YL l), (50, .d (.str rest))], mob rest, 50⟩ := by kernel_rfl
def Caps (ι : Nat → Option Gh) (us : Array Value) : Prop := ∃ (gh1 gh2 gh3 : Gh) (b1 b2 b3 : Nat), us = #[.pointer (some ⟨b2, 0, none⟩), .pointer (some ⟨b1, 0, none⟩), .pointer (some ⟨b3, 0, none⟩)] ∧
  (ι 1 = some gh1 ∧ gh1.v = .pointer (some ⟨b1, 0, none⟩)) ∧ (ι 2 = some gh2 ∧ gh2.v = .pointer (some ⟨b2, 0, none⟩)) ∧ (ι 3 = some gh3 ∧ gh3.v = .pointer (some ⟨b3, 0, none⟩))
theorem it_call {W : World} {ro0 : Nat → Nat → Prop} {l D fn : Nat} {tms us : Array Value} {g6 : Nat} {gh0 : Gh} (hW : W.heap.size ≤ l) (hts : tms.size = 28) (h6 : tms[2]? = some (.pointer (some ⟨g6, 0, none⟩))) (hv0 : gh0.v = .pointer (some ⟨g6, 0, none⟩))
    {m : Nat} {tm : List (Nat × AV E)} {s : List UInt8} {a : Act} {w : World} {ι : Nat → Option Gh} {ro : Nat → Nat → Prop} (hs : s.length ≤ 1000000) (hi0 : ι 0 = some gh0) (hcap : Caps ι us)
    (hg : Gam E (wSt W l D (rcB fn tms D false)) ro0 ⟨m, tm, mob s, 5⟩ a w ι ro) :
    Calls Tryz.prog 174 (#[.func (.yield l) #[] #[]] ++ us) w fun e w' => (∃ v, e = .returned v) ∧ ∃ ι' ro' rest, ι' 0 = some gh0 ∧ Gam E (wSt W l D (rcB fn tms D ((splP s).any badP))) ro0 ⟨0, [], mob rest, 210⟩ { tmps := #[], defers := [] } w' ι' ro' := by
  obtain ⟨gh1, gh2, gh3, b1, b2, b3, rfl, ⟨p1, q1⟩, ⟨p2, q2⟩, ⟨p3, q3⟩⟩ := hcap
  refine calls_of_wp (show Tryz.prog.funcs[174]? = some Tryz.f174 by kernel_rfl) it_body ?_
  have hnt : (Tryz.f174).ntmps = 52 := by kernel_rfl
  rw [hnt, show (#[.func (.yield l) #[] #[]] ++ #[.pointer (some ⟨b2, 0, none⟩), .pointer (some ⟨b1, 0, none⟩), .pointer (some ⟨b3, 0, none⟩)] : Array Value) = #[.func (.yield l) #[] #[], .pointer (some ⟨b2, 0, none⟩), .pointer (some ⟨b1, 0, none⟩), .pointer (some ⟨b3, 0, none⟩)] by simp]
  generalize hA : (#[.func (.yield l) #[] #[], .pointer (some ⟨b2, 0, none⟩), .pointer (some ⟨b1, 0, none⟩), .pointer (some ⟨b3, 0, none⟩)] : Array Value) = A
  have hz : A.size = 4 := by rw [← hA]; simp
  have hat : ∀ t, t < 4 → (A ++ Array.replicate (52 - A.size) undef)[t]? = A[t]? := fun t ht => by rw [Array.getElem?_append_left (by omega)]
  have hg1 : Gam E (wSt W l D (rcB fn tms D false)) ro0 ⟨52, tm0 l, mob s, 5⟩ { tmps := A ++ Array.replicate (52 - A.size) undef, defers := [] } w ι ro := by
    refine hg.frame rfl (by simp [hz]) (fun t y hl => ?_) (Nat.le_refl _)
    simp only [tm0, Mir.look] at hl
    cases hb0 : Nat.beq 0 t with
    | true =>
      rw [hb0] at hl
      have := Nat.eq_of_beq_eq_true hb0
      subst this
      cases hl
      exact ⟨_, (hat 0 (by decide)).trans (by rw [← hA]; rfl), Rep.d _ _ (.raw _ rfl)⟩
    | false =>
    rw [hb0] at hl
    cases hb1 : Nat.beq 1 t with
    | true =>
      rw [hb1] at hl
      have := Nat.eq_of_beq_eq_true hb1
      subst this
      cases hl
      exact ⟨_, (hat 1 (by decide)).trans (by rw [← hA]; rfl), Rep.ptr gh2 b2 2 0 p2 q2⟩
    | false =>
    rw [hb1] at hl
    cases hb2 : Nat.beq 2 t with
    | true =>
      rw [hb2] at hl
      have := Nat.eq_of_beq_eq_true hb2
      subst this
      cases hl
      exact ⟨_, (hat 2 (by decide)).trans (by rw [← hA]; rfl), Rep.ptr gh1 b1 1 0 p1 q1⟩
    | false =>
    rw [hb2] at hl
    cases hb3 : Nat.beq 3 t with
    | true =>
      rw [hb3] at hl
      have := Nat.eq_of_beq_eq_true hb3
      subst this
      cases hl
      exact ⟨_, (hat 3 (by decide)).trans (by rw [← hA]; rfl), Rep.ptr gh3 b3 3 0 p3 q3⟩
    | false => rw [hb3] at hl; cases hl
  refine wp_seq (wp_seq ((wpIn_wide (n := 0)).1 ?_))
  show Code.wpIn (Wd none) 0 Tryz.prog _ _ _ w
  refine reg_pk itO_ok rfl (tm0_nc l) hg1 (by kernel_rfl) _ _ _ _ (r0_e l s) fun a1 w1 ι1 ro1 nc1 g1 k1 => ?_
  refine wp_cond_false (bool_at g1 (t := 11) (b := false) rfl) (wp_skip ?_)
  obtain ⟨_, g2, _⟩ := g1.pick nc1 (ts := [0, 1, 2, 3]) (ids := [0, 1, 2, 3]) (nx := 20) (X := ⟨52, tm0 l, mob s, 20⟩) (by kernel_rfl)
  obtain ⟨nc3, g3'⟩ := ren_sound (w0 := wSt W l D (rcB fn tms D false)) (S := ⟨52, tm0 l, mob s, 20⟩) [0, 1, 2, 3] (by decide) (tm0 l) (fun t y h => ⟨y, h, (tm0_plain l _ t y h).symm⟩) (fun q h => by cases h) (tm0_nc l) g2
  have g3 : Gam E (wSt W l D (rcB fn tms D false)) ro0 ⟨52, tm0 l, mob s, 5⟩ a1 w1 (fun j => (([0, 1, 2, 3] : List Nat)[j]?).bind ι1) ro1 := g3'.frame g3'.base.defers g3'.size g3'.tmps (by show 4 ≤ 5; omega)
  have hi3 : (fun j => (([0, 1, 2, 3] : List Nat)[j]?).bind ι1) 0 = some gh0 := k1.ext _ _ hi0
  refine wp_seq (wp_block (LoopWp.wp (it_loop hW hts h6 hv0 ((splP s).any badP) ?_ ?_ s a1 w1 (fun j => (([0, 1, 2, 3] : List Nat)[j]?).bind ι1) ro1 hs rfl hi3 g3)))
  · intro a4 w4 ι4 ro4 rest hi4 hall g4
    show Code.wp Tryz.prog _ _ a4 w4
    refine (wpIn_wide (n := 0)).1 ?_
    show Code.wpIn (Wd none) 0 Tryz.prog _ _ a4 w4
    refine wpIn_region_list ?_
    refine step_pk (l := (i35 10).toList.take 2) (l2 := (i35 10).toList.drop 2) itO_ok rfl (tm0_nc l) g4 (List.take_append_drop _ _).symm (by kernel_rfl) (r10_e l rest) fun a5 w5 ι5 ro5 hnc5 g5 k5 => ?_
    have hx : a5.eval (.tmp 50) = .string ⟨rest.toArray⟩ := by
      have := d_at (c := .str rest) g5 (t := 50) rfl
      generalize a5.eval (.tmp 50) = v at this
      cases this; rfl
    have hy : a5.eval (.tmp 49) = .func (.yield l) #[] #[] := by
      have := d_at (c := .raw (.func (.yield l) #[] #[])) g5 (t := 49) rfl
      generalize a5.eval (.tmp 49) = v at this
      cases this; rfl
    obtain ⟨u1, u2⟩ := round_ok (n := 0) (x := rest) hW hts h6 hv0 (k5.ext _ _ hi4) (by show 50 ≤ 100; omega) g5
    have e2 : (i35 10).toList.drop 2 = (i35 10)[2]! :: [] := by kernel_rfl
    rw [e2]
    refine wpListIn_plain (by kernel_rfl) fun K hK' => ?_
    refine yield_op (show ((i35 10)[2]!).op = .call { callee := .value (.tmp 49), args := #[.tmp 50], argTypes := #[9] } by kernel_rfl) hy (by rw [show (#[Operand.tmp 50].map a5.eval) = #[a5.eval (.tmp 50)] by simp, hx]; exact u1) (u2.mono fun e w6 he => ?_)
    obtain ⟨v, rfl, rfl, ι6, ro6, g6', k6⟩ := he
    refine ⟨_, rfl, hK' _ _ ?_⟩
    have hd6 : (a5.put ((i35 10)[2]!).dst (.bool (!badP rest))).defers = [] := by
      have := g6'.base.defers
      cases ((i35 10)[2]!).dst <;> exact this
    refine wpListIn_nil ⟨hd6, .tuple #[], (by kernel_rfl), ⟨_, rfl⟩, ι6, ro6, rest, k6.ext _ _ (k5.ext _ _ hi4), ?_⟩
    rw [← hall]
    exact g6'.frame rfl rfl (fun t y h => by cases h) (by show 200 ≤ 210; omega)
  · intro a4 w4 ι4 ro4 rest hi4 hall g4
    refine ⟨g4.base.defers, .tuple #[], (by kernel_rfl), ⟨_, rfl⟩, ι4, ro4, rest, hi4, ?_⟩
    rw [hall]
    exact g4.frame rfl rfl (fun t y h => by cases h) (Nat.le_refl _)
end
end Go.Proofs.YtiahkjjfhnfdiaaGreatDoor.Rf
namespace Go.Proofs.YtiahkjjfhnfdiaaGreatDoor.Rf
open Go Go.RowKit Go.Sort Go.Proofs.YtiahkjjfhnfdiaaGreatDoor.Mir
theorem fn1_kit {f : FuncId} {a t : E.Ty} {ok : E.Den a → Bool} {F : E.Den a → E.Den t} (ex : ∃ fn, Tryz.prog.funcs[f]? = some fn ∧ (fn.name == "runtime.NumGoroutine") = false ∧ fn.body.isNone = false) (h : ∀ x, ok x = true → CallsOk E f [⟨a, x⟩] [⟨t, F x⟩]) : FnOk E f (fn1 a t ok F) :=
  ⟨ex, fun args r hr => by
    unfold fn1 at hr
    split at hr
    · split at hr
      · rename_i x hx
        injection hr with hr
        injection hr with h1 h2
        subst h2
        rw [castV_eq hx]
        exact h _ h1
      · cases hr
    · cases hr⟩
section
noncomputable abbrev tgF : Func := Tryz.f140
noncomputable def tailC : Code := .seq (.region 9 (i7 9) false) .ret
theorem tg_body : tgF.body = some (.seq (.region 0 (i7 0) false) (.seq (.seq (.region 1 (i7 1) false) (.cond (.tmp 11) (.seq (.region 2 (i7 2) false) .ret) .skip)) (.seq (.seq (.region 3 (i7 3) false) (.cond (.tmp 13) (.seq (.region 4 (i7 4) false) .ret) .skip))
    (.seq (.seq (.region 5 (i7 5) false) (.block 0 (.rangeFunc (.tmp 16) #[17] A3 B4))) tailC)))) := by kernel_rfl
noncomputable def mT : List (FuncId × Func) := [(162, Tryz.f162), (172, Tryz.f172)]
noncomputable def mO : Oracle E := withI (orac [(142, mount_path_W)]) mT
theorem mO_ok : OracleOk E mO := withI_ok (orac_ok (.cons mount_path_ok .nil) .nil .nil .nil) mix (.cons (by kernel_rfl) (by kernel_rfl) (by kernel_rfl) (.cons (by kernel_rfl) (by kernel_rfl) (by kernel_rfl) .nil))
def bx0 : List (Nat × AObj E) := [(0, .box [.d (.bool false)])]
def X5 (r : List UInt8) : ASt E := ⟨28, [(2, .ptr 0 0), (16, .fn 174 [] [.ptr 36 0, .ptr 35 0, .ptr 37 0])], [(0, .box [.d (.bool false)]), (35, .box [.d (.str r)]), (36, .box [.d (.str [47])]), (37, .box [.d (.int .i64 0)])], 60⟩
def c1 (p : Bool) (s : List UInt8) : Bool := bif (!p) then true else ((((List.getD s (Int.toNat (0 : Int)) 0).toNat : Nat) : Int) != (47 : Int))
theorem m0_e (s : List UInt8) : evSeq mO (i7 0) 28 [(0, .d (.str s))] (i7 0).toList [] [] 0 (pk [0, 2] [0] 10) = some ⟨28, [(0, .d (.str s)), (2, .ptr 0 0)], bx0, 10⟩ := by kernel_rfl
theorem m1_e (s : List UInt8) : evSeq mO (i7 1) 28 [(0, .d (.str s)), (2, .ptr 0 0)] (i7 1).toList [] bx0 10 (pk [11, 0, 2] [0] 20) = bif (mount_path_m s).isSome then bif ((decide ((0 : Int) ≤ 0) && decide ((0 : Int) < (s.length : Int))) || !(!(!(gv (mount_path_m s))))) then some ⟨28, [(11, .d (.bool (c1 (gv (mount_path_m s)) s))), (0, .d (.str s)), (2, .ptr 0 0)], bx0, 20⟩ else none else none := by kernel_rfl
theorem m3_e (s : List UInt8) (b : Bool) : evSeq mO (i7 3) 28 [(11, .d (.bool b)), (0, .d (.str s)), (2, .ptr 0 0)] (i7 3).toList [] bx0 20 (pk [13, 0, 2] [0] 30) = some ⟨28, [(13, .d (.bool (s == [47]))), (0, .d (.str s)), (2, .ptr 0 0)], bx0, 30⟩ := by kernel_rfl
theorem m5_e (s : List UInt8) (b : Bool) : evSeq mO (i7 5) 28 [(13, .d (.bool b)), (0, .d (.str s)), (2, .ptr 0 0)] (i7 5).toList [] bx0 30 (pk [2, 16] [0, 35, 36, 37] 60) =
    bif decide ((0 : Int) ≤ 1) && decide ((1 : Int) ≤ (s.length : Int)) && decide ((s.length : Int) ≤ (s.length : Int)) then some (X5 (List.take (Int.toNat (s.length : Int) - Int.toNat 1) (List.drop (Int.toNat 1) s))) else none := by kernel_rfl
noncomputable def retK (e : AExit) (S : ASt E) : Option (List (TV E)) := match e with | .ret => endK tgF .ret S | _ => none
theorem e2 (s : List UInt8) (b : Bool) : evU mO {} 1 (.seq (.region 2 (i7 2) false) .ret) ⟨28, [(11, .d (.bool b)), (0, .d (.str s)), (2, .ptr 0 0)], bx0, 20⟩ retK = some [⟨.bool, false⟩] := by kernel_rfl
theorem e4 (s : List UInt8) (b : Bool) : evU mO {} 1 (.seq (.region 4 (i7 4) false) .ret) ⟨28, [(13, .d (.bool b)), (0, .d (.str s)), (2, .ptr 0 0)], bx0, 30⟩ retK = some [⟨.bool, true⟩] := by kernel_rfl
theorem e9 (r : List UInt8) : evU mO {} 1 tailC ⟨28, [(2, .ptr 0 0)], mob r, 210⟩ (endK tgF) = some [⟨.bool, true⟩] := by kernel_rfl
theorem tg_start {w : World} {ro : Nat → Nat → Prop} (s : List UInt8) (hrolt : ∀ k o, ro k o → k < w.heap.size) : Gam E ⟨w, none, none, [], fun _ => none⟩ ro ⟨28, [(0, .d (.str s))], [], 0⟩ { tmps := #[.string ⟨s.toArray⟩] ++ Array.replicate (28 - 1) undef, defers := [] } w (fun _ => none) ro where
  base := ⟨⟨rfl, rfl, rfl, Nat.le_refl _, fun _ _ _ => rfl⟩, hrolt, fun k o h => .inl h, (fun id gh k h => by cases h), rfl, (fun q h => by cases h), (fun k o h => by cases h)⟩
  size := by simp
  tmps := fun t x hl => by
    simp only [Mir.look] at hl
    cases hb : Nat.beq 0 t with
    | true =>
      rw [hb] at hl
      have := Nat.eq_of_beq_eq_true hb
      subst this
      cases hl
      exact ⟨.string ⟨s.toArray⟩, by rw [Array.getElem?_append_left (by simp)]; rfl, Rep.d _ _ (.str s)⟩
    | false => rw [hb] at hl; cases hl
  objs := fun id o hl => by cases hl
  inj := fun id id' o o' gh gh' k hl => by cases hl
  fresh := fun _ _ => rfl
  ids := fun id o hl => by cases hl
theorem cell_same {w w' : World} {k : Nat} (h : w'.heap[k]? = w.heap[k]?) (o : Nat) : w'.cell? ⟨k, o, none⟩ = w.cell? ⟨k, o, none⟩ := by
  unfold World.cell?
  rw [h]
def RB (W : World) (ro0 : Nat → Nat → Prop) (res : List (TV E)) (e : Ending) (w' : World) : Prop := ∃ v, e = .returned v ∧ Below W.heap.size W w' ∧ RetRep E w' (fun k o => ro0 k o ∨ (W.heap.size ≤ k ∧ k < w'.heap.size)) v res
theorem leave0 {W : World} {ro0 : Nat → Nat → Prop} {res : List (TV E)} {e : AExit} {S' : ASt E} {a' : Act} {w' : World} {ι' : Nat → Option Gh} {ro' : Nat → Nat → Prop} (nc' : NoCond S'.tmps) (g' : Gam E ⟨W, none, none, [], fun _ => none⟩ ro0 S' a' w' ι' ro') (hk : endK tgF e S' = some res) :
    bodyPostM Fence.wide 0 Tryz.prog tgF (RB W ro0 res) e.toExit a' w' := by
  have q4 := endK_sound nc' g' hk
  have hd : a'.defers = [] := g'.base.defers
  cases e with
  | normal => show LeavesInM _ _ _ _ _ _ a'.defers _ _; rw [hd]; exact q4.2
  | ret => show LeavesInM _ _ _ _ _ _ a'.defers _ _; rw [hd]; exact q4.2
  | exit id => cases hk
  | goto l => cases hk
theorem leave1 {W : World} {D : Nat} {ro0 : Nat → Nat → Prop} {res : List (TV E)} {e : AExit} {S' : ASt E} {a' : Act} {w' : World} {ι' : Nat → Option Gh} {ro' : Nat → Nat → Prop} (hWw : W.heap.size ≤ D) (nc' : NoCond S'.tmps)
    (g' : Gam E ⟨W, none, none, [{ target := .collected D, args := #[] }], fun k => if k = D then some (.deferred (some [])) else none⟩ ro0 S' a' w' ι' ro') (hk : endK tgF e S' = some res) :
    bodyPostM Fence.wide 0 Tryz.prog tgF (RB W ro0 res) e.toExit a' w' := by
  have hdD := (g'.base.held D (.deferred (some [])) (if_pos rfl)).1
  have hdf : a'.defers = [{ target := .collected D, args := #[] }] := g'.base.defers
  obtain ⟨q1, q2⟩ := g'.putHeld rfl (l := D) (o := .deferred (some [])) (o' := .deferred none) (if_pos rfl) hWw rfl rfl
  have q3 : Gam E ⟨W, none, none, [], fun _ => none⟩ ro0 S' { a' with defers := [] } (w'.putObj D (.deferred none)) ι' ro' :=
    q1.turn rfl (H := fun _ => none) (dl := []) rfl rfl rfl rfl rfl (Nat.le_refl _) (fun _ _ => .inr rfl) (fun _ _ _ => rfl) (fun k o hk => by cases hk)
  have q4 := endK_sound nc' q3 hk
  cases e with
  | normal => show LeavesInM _ _ _ _ _ _ a'.defers _ _; rw [hdf]; exact ⟨by simp, .inl ⟨D, _, rfl, run_takeDeferred hdD, q4.2⟩⟩
  | ret => show LeavesInM _ _ _ _ _ _ a'.defers _ _; rw [hdf]; exact ⟨by simp, .inl ⟨D, _, rfl, run_takeDeferred hdD, q4.2⟩⟩
  | exit id => cases hk
  | goto l => cases hk
def tgtV (s : List UInt8) : Bool := gv (mount_path_m s) && (s.headD 0 == 47) && ((s == [47]) || !(splP (s.drop 1)).any badP)
theorem target_of (s : List UInt8) (hs : s.length ≤ 1000000) (p : Bool) (hp : mount_path_m s = some p) (h0 : p = true → 0 < s.length) : CallsOk E 140 [⟨.str, s⟩] [⟨.bool, tgtV s⟩] := by
  intro W ro0 vals hargs hrolt
  match vals, hargs with
  | [u], ⟨h1, _⟩ =>
  have eu : u = .string ⟨s.toArray⟩ := by
    rcases h1 with ⟨ha, _⟩ | ⟨_, d, hd, hr⟩
    · cases ha
    · have hd : ([.str s] : List (DVal E.Den)) = [d] := hd
      injection hd with hd _
      subst hd
      cases hr; rfl
  subst eu
  refine (callsIn_wide (n := 0)).1 (callsIn_of_wp_marks (show Tryz.prog.funcs[140]? = some tgF by kernel_rfl) tg_body trivial ?_)
  have hnt : tgF.ntmps = 28 := by kernel_rfl
  rw [hnt, show ([Value.string ⟨s.toArray⟩].toArray : Array Value) = #[.string ⟨s.toArray⟩] from rfl, show (#[Value.string ⟨s.toArray⟩] : Array Value).size = 1 from rfl]
  show Code.wpIn (Wd none) 0 Tryz.prog _ (bodyPostM Fence.wide 0 Tryz.prog tgF (RB W ro0 [⟨.bool, tgtV s⟩])) _ W
  refine wpIn_seq ?_
  refine reg_pk mO_ok rfl (fun p hp => by simp at hp; subst hp; rfl) (tg_start s hrolt) (by kernel_rfl) _ _ _ _ (m0_e s) fun a0 w0 ι0 r0 nc0 g0 k0 => ?_
  refine wpIn_seq (wpIn_seq ?_)
  have hg1 : gv (mount_path_m s) = p := by rw [hp]; rfl
  have h1 := m1_e s
  rw [hg1, show (mount_path_m s).isSome = true by rw [hp]; rfl, cond_true, show ((decide ((0 : Int) ≤ 0) && decide ((0 : Int) < (s.length : Int))) || !(!(!p))) = true by
    cases p with
    | false => simp
    | true => simp [h0 rfl], cond_true] at h1
  refine reg_pk mO_ok rfl nc0 g0 (by kernel_rfl) _ _ _ _ h1 fun a1 w1 ι1 r1 nc1 g1 k1 => ?_
  have hb1 := bool_at g1 (t := 11) (b := c1 p s) rfl
  have hc1 : c1 p s = !(p && (s.headD 0 == 47)) := by
    unfold c1
    cases p with
    | false => rfl
    | true =>
      have hl := h0 rfl
      match s, hl with
      | c :: r, _ =>
        show (((c.toNat : Nat) : Int) != 47) = !(true && (c == 47))
        rw [Bool.true_and, Bool.eq_iff_iff]
        simp only [bne_iff_ne, ne_eq, Bool.not_eq_true', beq_eq_false_iff_ne]
        constructor
        · intro h e; exact h (by rw [e]; rfl)
        · intro h e
          have e : c.toNat = 47 := by omega
          exact h (UInt8.toNat_inj.1 (by rw [e]; rfl))
  have fin0 : ∀ (c : Code) (S : ASt E) (a : Act) (w : World) (ι : Nat → Option Gh) (ro : Nat → Nat → Prop) (Q : Exit → Act → World → Prop), NoCond S.tmps → Gam E ⟨W, none, none, [], fun _ => none⟩ ro0 S a w ι ro → evU mO {} 1 c S retK = some [⟨.bool, tgtV s⟩] →
      (∀ a' w', bodyPostM Fence.wide 0 Tryz.prog tgF (RB W ro0 [⟨.bool, tgtV s⟩]) .ret a' w' → Q .ret a' w') → Code.wpIn (Wd none) 0 Tryz.prog c Q a w := by
    intro c S a w ι ro Q nc g he hq
    show Code.wpIn Fence.wide 0 Tryz.prog c _ a w
    refine wpIn_wide.2 ?_
    exact evU_sound (rr := [⟨.bool, tgtV s⟩]) (n := S.n) mO_ok mix (h := {}) (m := 1) c S retK _ a w ι ro nc g rfl he fun e S' a' w' ι' ro' nc' g' hn' hk => by
      cases e with
      | ret => exact hq _ _ (leave0 (e := .ret) nc' g' hk)
      | normal => cases hk
      | exit id => cases hk
      | goto l => cases hk
  cases hcc : c1 p s with
  | true =>
    rw [hcc] at hb1
    have hv : tgtV s = false := by rw [hcc] at hc1; unfold tgtV; rw [hg1, show (p && (s.headD 0 == 47)) = false by cases hx : (p && (s.headD 0 == 47)) with | false => rfl | true => (rw [hx] at hc1; cases hc1)]; rfl
    refine wpIn_cond_true hb1 ?_
    exact fin0 _ _ a1 w1 ι1 r1 _ nc1 g1 (by rw [hv]; exact e2 s _) fun _ _ h => h
  | false =>
  rw [hcc] at hb1
  have hv : tgtV s = ((s == [47]) || !(splP (s.drop 1)).any badP) := by rw [hcc] at hc1; unfold tgtV; rw [hg1, show (p && (s.headD 0 == 47)) = true by cases hx : (p && (s.headD 0 == 47)) with | true => rfl | false => (rw [hx] at hc1; cases hc1), Bool.true_and]
  have hlen : 0 < s.length := by
    refine h0 ?_
    rw [hcc] at hc1
    cases p with
    | true => rfl
    | false => cases hc1
  refine wpIn_cond_false hb1 (wpIn_skip ?_)
  refine wpIn_seq (wpIn_seq ?_)
  refine reg_pk mO_ok rfl nc1 g1 (by kernel_rfl) _ _ _ _ (m3_e s _) fun a3 w3 ι3 r3 nc3 g3 k3 => ?_
  have hb3 := bool_at g3 (t := 13) (b := s == [47]) rfl
  cases hc3 : s == [47] with
  | true =>
    rw [hc3] at hb3
    refine wpIn_cond_true hb3 ?_
    exact fin0 _ _ a3 w3 ι3 r3 _ nc3 g3 (by rw [hv, hc3]; exact e4 s _) fun _ _ h => h
  | false =>
  rw [hc3] at hb3
  rw [hc3, Bool.false_or] at hv
  refine wpIn_cond_false hb3 (wpIn_skip ?_)
  refine wpIn_seq (wpIn_seq ?_)
  have h5 := m5_e s (s == [47])
  rw [dT (show (0 : Int) ≤ 1 by omega), dT (show (1 : Int) ≤ (s.length : Int) by omega), dT (show (s.length : Int) ≤ (s.length : Int) by omega)] at h5
  simp only [Bool.and_self, cond_true, Int.toNat_natCast] at h5
  rw [show List.take (s.length - Int.toNat 1) (List.drop (Int.toNat 1) s) = s.drop 1 from List.take_of_length_le (by rw [List.length_drop]; exact Nat.le_refl _)] at h5
  refine reg_pk mO_ok rfl nc3 g3 (by kernel_rfl) _ _ _ _ h5 fun a w ι ro nc g k5 => ?_
  obtain ⟨v6, h6, r6⟩ := g.tmps 2 (.ptr 0 0) rfl
  obtain ⟨v10, h10, r10⟩ := g.tmps 16 (.fn 174 [] [.ptr 36 0, .ptr 35 0, .ptr 37 0]) rfl
  have r6 : Rep E w ro ι v6 (.ptr 0 0) := r6
  have r10 : Rep E w ro ι v10 (.fn 174 [] [.ptr 36 0, .ptr 35 0, .ptr 37 0]) := r10
  cases r6 with
  | ptr gh0 g6 _ _ hi0 hv0 =>
  cases r10 with
  | fn _ vs us _ _ hvs hus _ hur =>
  have hvs0 : vs = #[] := Array.eq_empty_of_size_eq_zero hvs
  subst hvs0
  obtain ⟨us⟩ := us
  match us, hus, hur with
  | [x, q, r], _, hur =>
  have rp : Rep E w ro ι x (.ptr 36 0) := hur 0 x _ rfl rfl
  have rq : Rep E w ro ι q (.ptr 35 0) := hur 1 q _ rfl rfl
  have rr : Rep E w ro ι r (.ptr 37 0) := hur 2 r _ rfl rfl
  cases rp with
  | ptr gh2 b2 _ _ hi2 hv2 =>
  cases rq with
  | ptr gh1 b1 _ _ hi1 hv1 =>
  cases rr with
  | ptr gh3 b3 _ _ hi3 hv3 =>
  obtain ⟨_, g4'⟩ := ren_sound (w0 := ⟨W, none, none, [], fun _ => none⟩) (S := X5 (s.drop 1)) [0, 35, 36, 37] (by decide) [] (fun t y h => by cases h) (fun q h => by cases h) nc g
  generalize hι : (fun j : Nat => ((([0, 35, 36, 37] : List Nat)[j]?).bind ι : Option Gh)) = ι4 at g4'
  have g4 : Gam E ⟨W, none, none, [], fun _ => none⟩ ro0 ⟨28, [], mob (s.drop 1), 5⟩ a w ι4 ro := g4'.frame g4'.base.defers g4'.size g4'.tmps (by show 4 ≤ 5; omega)
  have hcap : Caps ι4 #[.pointer (some ⟨b2, 0, none⟩), .pointer (some ⟨b1, 0, none⟩), .pointer (some ⟨b3, 0, none⟩)] := by
    subst hι
    exact ⟨gh1, gh2, gh3, b1, b2, b3, rfl, ⟨hi1, hv1⟩, ⟨hi2, hv2⟩, ⟨hi3, hv3⟩⟩
  have hi0' : ι4 0 = some gh0 := by subst hι; exact hi0
  have hda : a.defers = [] := g4.base.defers
  have hsz : a.tmps.size = 28 := g4.size
  have hWw : W.heap.size ≤ w.heap.size := g4.base.below.size
  refine wpIn_block ?_
  refine wpIn_rangeFunc fun fn hfn => ?_
  let rec0 : Loop := rc fn a.tmps w.heap.size .ready none
  let W1 : World := (w.alloc (.deferred (some []))).alloc (.loop rec0)
  have hfr : ∀ k, k < w.heap.size → W1.heap[k]? = w.heap[k]? := fun k hk =>
    (Below.heap_alloc (w.alloc (.deferred (some []))) (.loop rec0) k (by rw [World.size_alloc]; omega)).trans (Below.heap_alloc w (.deferred (some [])) k hk)
  have hD : W1.heap[w.heap.size]? = some (.deferred (some [])) := (Below.heap_alloc (w.alloc (.deferred (some []))) (.loop rec0) _ (by rw [World.size_alloc]; omega)).trans (World.alloc_heap_new w _)
  have hL : W1.heap[w.heap.size + 1]? = some (.loop rec0) := by
    have := World.alloc_heap_new (w.alloc (.deferred (some []))) (.loop rec0)
    rwa [World.size_alloc] at this
  have hgW : Gam E (wSt W (w.heap.size + 1) w.heap.size (.loop rec0)) ro0 ⟨28, [], mob (s.drop 1), 5⟩ a W1 ι4 ro := by
    refine g4.turn rfl (H := hd (w.heap.size + 1) w.heap.size (.loop rec0)) (dl := []) hda rfl rfl rfl rfl (by show w.heap.size ≤ ((w.alloc (.deferred (some []))).alloc (.loop rec0)).heap.size; rw [World.size_alloc, World.size_alloc]; omega) (fun k hk => .inr (hfr k hk)) (fun k o hk => cell_same (hfr k hk) o) (fun k o hk => ?_)
    have hgh : ∀ id gh, ι4 id = some gh → ∀ k, w.heap.size ≤ k → gh.blk ≠ some k := fun id gh h1 k h2 h3 => by
      have := (g4.base.ilt id gh k h1 h3).2
      omega
    unfold hd at hk
    split at hk
    · rename_i e; subst e; cases hk; exact ⟨hL, fun id gh h1 => hgh id gh h1 _ (by omega)⟩
    · split at hk
      · rename_i e; subst e; cases hk; exact ⟨hD, fun id gh h1 => hgh id gh h1 _ (by omega)⟩
      · cases hk
  have hev : a.eval (.tmp 16) = .func (.func 174) #[] #[.pointer (some ⟨b2, 0, none⟩), .pointer (some ⟨b1, 0, none⟩), .pointer (some ⟨b3, 0, none⟩)] := by
    simp [Act.eval, h10]
  refine ⟨w.heap.size + 1, [{ target := .collected w.heap.size, args := #[] }], W1, { target := .fn (.func 174) #[.pointer (some ⟨b2, 0, none⟩), .pointer (some ⟨b1, 0, none⟩), .pointer (some ⟨b3, 0, none⟩)], args := #[.func (.yield (w.heap.size + 1)) #[] #[]] }, W1, 174,
    #[.func (.yield (w.heap.size + 1)) #[] #[]] ++ #[.pointer (some ⟨b2, 0, none⟩), .pointer (some ⟨b1, 0, none⟩), .pointer (some ⟨b3, 0, none⟩)], W1, run_enterLoop_outer fn a.tmps #[17] A3 B4, ?_, fun _ _ => trivial, ?_, fun h => (by cases h), ?_⟩
  · simp only [resolve, hev]
    simp [go_sem]
  · have h1 : Tryz.prog.funcs[174]? = some Tryz.f174 := by kernel_rfl
    have h2 : ((Tryz.f174).name == "runtime.NumGoroutine") = false := by kernel_rfl
    have h3 : (Tryz.f174).body.isNone = false := by kernel_rfl
    have hn : ¬ (Tryz.f174).name = "runtime.NumGoroutine" := by intro e; rw [e] at h2; simp at h2
    have hb : ¬ (Tryz.f174).body = none := by intro e; rw [e] at h3; simp at h3
    simp only [invoke, callFunc]
    simp [h1, hn, hb, program, Sem.run]
  · refine callsIn_wd.2 ((it_call (by omega) hsz h6 hv0 (by rw [List.length_drop]; omega) hi0' hcap hgW).mono fun e w5 he => ?_)
    obtain ⟨⟨v, rfl⟩, ι5, ro5, rest, hi5, g5⟩ := he
    have hbs : (rcB fn a.tmps w.heap.size ((splP (s.drop 1)).any badP)) = .loop { rec0 with state := bif (splP (s.drop 1)).any badP then .done else .ready, pending := bif (splP (s.drop 1)).any badP then some .ret else none } := rfl
    rw [hbs] at g5
    refine ⟨bif (splP (s.drop 1)).any badP then some .ret else none, _, run_endLoop (wS_at g5) (by cases (splP (s.drop 1)).any badP <;> simp), ?_⟩
    obtain ⟨g6', _⟩ := wS_put (o' := .loop { rec0 with state := .exhausted, pending := bif (splP (s.drop 1)).any badP then some .ret else none }) g5 (by omega) rfl rfl
    have g7 := g6'.frame (a' := a) (m := 28) (nx := 210) (tm := [(2, .ptr 0 0)]) hda hsz (fun t y hl => by
      simp only [Mir.look] at hl
      cases hb : Nat.beq 2 t with
      | true =>
        rw [hb] at hl
        have := Nat.eq_of_beq_eq_true hb
        subst this
        cases hl
        exact ⟨_, h6, Rep.ptr gh0 g6 0 0 hi5 hv0⟩
      | false => rw [hb] at hl; cases hl) (Nat.le_refl _)
    have g8 : Gam E ⟨W, none, none, [{ target := .collected w.heap.size, args := #[] }], fun k => if k = w.heap.size then some (.deferred (some [])) else none⟩ ro0 ⟨28, [(2, .ptr 0 0)], mob rest, 210⟩ { a with defers := [{ target := .collected w.heap.size, args := #[] }] ++ a.defers } (w5.putObj (w.heap.size + 1) (.loop { rec0 with state := .exhausted, pending := bif (splP (s.drop 1)).any badP then some .ret else none })) ι5 ro5 := by
      refine g7.turn rfl (H := fun k => if k = w.heap.size then some (.deferred (some [])) else none) (dl := [{ target := .collected w.heap.size, args := #[] }]) (by show [_] ++ a.defers = _; rw [hda]; rfl) rfl rfl rfl rfl (Nat.le_refl _) (fun _ _ => .inr rfl) (fun _ _ _ => rfl) (fun k o hk => ?_)
      split at hk
      · rename_i e
        subst e
        cases hk
        exact g7.base.held _ _ (by show hd _ _ _ _ = _; unfold hd; rw [if_neg (by omega), if_pos rfl])
      · cases hk
    cases hany : (splP (s.drop 1)).any badP with
    | false =>
      rw [hany] at g8 hv
      show Code.wpIn Fence.wide 0 Tryz.prog tailC _ _ _
      refine wpIn_wide.2 ?_
      exact evU_sound (rr := [⟨.bool, tgtV s⟩]) (n := 28) mO_ok mix (h := {}) (m := 1) tailC _ (endK tgF) _ _ _ ι5 ro5 (fun p hp => by simp at hp; subst hp; rfl) g8 rfl (by rw [hv]; exact e9 rest) fun e S' a' w' ι' ro' nc' g' hn' hk => leave1 hWw nc' g' hk
    | true =>
      rw [hany] at g8 hv
      refine wpIn_ret ?_
      exact leave1 (e := .ret) hWw (fun p hp => by simp at hp; subst hp; rfl) g8 (by rw [hv]; kernel_rfl)
def okT (s : List UInt8) : Bool := decide (s.length ≤ 1000000) && ((mount_path_m s).isSome && (!(gv (mount_path_m s)) || decide (0 < s.length)))
noncomputable def mtarget_W : FnW E := fn1 (E := E) .str .bool okT tgtV
def mtarget_id : FuncId := 140
theorem mtarget_ok : FnOk E mtarget_id mtarget_W := fn1_kit ⟨tgF, by kernel_rfl, by kernel_rfl, by kernel_rfl⟩ fun s hk => by
  simp only [okT, Bool.and_eq_true, Bool.or_eq_true, Bool.not_eq_true', decide_eq_true_eq] at hk
  obtain ⟨h1, h2, h3⟩ := hk
  obtain ⟨p, hp⟩ := Option.isSome_iff_exists.1 h2
  refine target_of s h1 p hp fun e => ?_
  rw [hp] at h3
  rcases h3 with h | h
  · subst e; cases h
  · exact h
end
end Go.Proofs.YtiahkjjfhnfdiaaGreatDoor.Rf
namespace Go.Proofs.YtiahkjjfhnfdiaaGreatDoor.Rf
open Go Go.RowKit Go.Sort Go.Proofs.YtiahkjjfhnfdiaaGreatDoor.Mir
noncomputable section
inductive mount_Right_S where
  | e (x0 : Mount)
def mount_Right_t : Tree (Bool) mount_Right_S := fun _ k _ n s => match s with
  | .e x0 => ck (okT x0.target) n (ck (((mount_volume_m x0.source).isSome) || !((tgtV x0.target) && (!(x0.source == ([] : List UInt8))))) n (ck (((mount_path_m x0.source).isSome) || !((tgtV x0.target) && (!(bif (x0.source == ([] : List UInt8)) then true else (gv (mount_volume_m x0.source)))))) n (ck ((decide (0 ≤ (0 : Int)) && decide ((0 : Int) < (x0.source.length : Int))) || !(((tgtV x0.target) && (!(bif (x0.source == ([] : List UInt8)) then true else (gv (mount_volume_m x0.source))))) && (gv (mount_path_m x0.source)))) n (ck ((decide (0 ≤ (0 : Int)) && decide ((0 : Int) < (x0.source.length : Int))) || !((((tgtV x0.target) && (!(bif (x0.source == ([] : List UInt8)) then true else (gv (mount_volume_m x0.source))))) && (gv (mount_path_m x0.source))) && (!((((List.getD x0.source (Int.toNat (0 : Int)) 0).toNat : Nat) : Int) == (47 : Int))))) n (k (bif (tgtV x0.target) then (bif (bif (x0.source == ([] : List UInt8)) then true else (gv (mount_volume_m x0.source))) then true else (bif (gv (mount_path_m x0.source)) then (bif ((((List.getD x0.source (Int.toNat (0 : Int)) 0).toNat : Nat) : Int) == (47 : Int)) then true else ((((List.getD x0.source (Int.toNat (0 : Int)) 0).toNat : Nat) : Int) == (46 : Int))) else false)) else false))))))
def mount_Right_O : Oracle E := orac [(142, mount_path_W), (140, mtarget_W), (141, mount_volume_W)]
theorem mount_Right_hO : OracleOk E mount_Right_O := orac_ok (.cons mount_path_ok (.cons mtarget_ok (.cons mount_volume_ok .nil))) .nil .nil .nil
def mount_Right_H : Hint E := {}
def mount_Right_C : mount_Right_S → Hd E
  | .e x0 => .e [⟨.api_Mount, x0⟩]
theorem mount_Right_N : NatT mount_Right_t := fun τ k g n s => by cases s <;> simp only [mount_Right_t, eA]
theorem mount_Right_R : Runs (E := E) .fn mount_Right_O Tryz.f112 mount_Right_H mount_Right_C (encA (E := E) [.bool]) mount_Right_t := ⟨fun s G => by cases s <;> kernel_rfl, mount_Right_N⟩
def mount_Right_m (x0 : Mount) : Option (Bool) := mu mount_Right_t (.e x0)
def mount_Right_W : FnW E := fnG (E := E) [.api_Mount] [.bool] fun a => mount_Right_m a
theorem mount_Right_ok : FnOk E 112 mount_Right_W := Runs.fn (E := E) (ps := [.api_Mount]) (rs := [.bool]) mount_Right_R mount_Right_hO mix ⟨Tryz.func112, by kernel_rfl, by kernel_rfl⟩ (st := fun a => .e a) (fun _ => rfl) fun _ r h => ⟨r, h, rfl⟩
inductive norm_place_S where
  | e (x0 : Node)
def norm_place_t : Tree (Mount × Bool) norm_place_S := fun _ k _ n s => match s with
  | .e x0 => cl (norm_field_text_m (⟨(etNode x0), (x0.keys.length : Int), (x0.kind != (3 : Int))⟩ : field) ([115, 111, 117, 114, 99, 101] : List UInt8) ([] : List UInt8)) n fun y1 => cl (norm_field_text_m (⟨(etNode ((y1.1).n)), (y1.1).left, (y1.1).bad⟩ : field) ([116, 97, 114, 103, 101, 116] : List UInt8) ([] : List UInt8)) n fun y2 => cl (norm_field_truth_m (⟨(etNode ((y2.1).n)), (y2.1).left, (y2.1).bad⟩ : field) ([114, 101, 97, 100, 95, 111, 110, 108, 121] : List UInt8) false) n fun y3 => cl (norm_field_text_m (⟨(etNode ((y3.1).n)), (y3.1).left, (y3.1).bad⟩ : field) ([116, 121, 112, 101] : List UInt8) ([98, 105, 110, 100] : List UInt8)) n fun y4 => ck (((mount_Right_m (⟨y1.2, y2.2, y3.2⟩ : Mount)).isSome) || !(bif (!(y4.1).bad) then ((y4.1).left == (0 : Int)) else false)) n (k ((⟨y1.2, y2.2, y3.2⟩ : Mount), (bif (bif (bif (!(y4.1).bad) then ((y4.1).left == (0 : Int)) else false) then (gv (mount_Right_m (⟨y1.2, y2.2, y3.2⟩ : Mount))) else false) then (bif (bif (y4.2 == ([98, 105, 110, 100] : List UInt8)) then true else (y4.2 == ([118, 111, 108, 117, 109, 101] : List UInt8))) then true else (y4.2 == ([116, 109, 112, 102, 115] : List UInt8))) else false)))
def norm_place_O : Oracle E := withB (withI (orac [(112, mount_Right_W)]) [(79, Tryz.f79), (81, Tryz.f81)]) [(80, norm_field_text_B), (82, norm_field_truth_B)]
theorem norm_place_hO : OracleOk E norm_place_O := withB_ok (withI_ok (orac_ok (.cons mount_Right_ok .nil) .nil .nil .nil) mix (.cons (f := 79) (fn := Tryz.f79) (by kernel_rfl) (by kernel_rfl) (by kernel_rfl) (.cons (f := 81) (fn := Tryz.f81) (by kernel_rfl) (by kernel_rfl) (by kernel_rfl) .nil))) (.cons norm_field_text_bok (.cons norm_field_truth_bok .nil))
def norm_place_H : Hint E := {}
def norm_place_C : norm_place_S → Hd E
  | .e x0 => .e [⟨.api_Node, x0⟩]
theorem norm_place_N : NatT norm_place_t := fun τ k g n s => by cases s <;> simp only [norm_place_t, eA]
theorem norm_place_R : Runs (E := E) .fn norm_place_O Tryz.f74 norm_place_H norm_place_C (encA (E := E) [.api_Mount, .bool]) norm_place_t := ⟨fun s G => by cases s <;> kernel_rfl, norm_place_N⟩
def norm_place_m (x0 : Node) : Option (Mount × Bool) := mu norm_place_t (.e x0)
def norm_place_W : FnW E := fnG (E := E) [.api_Node] [.api_Mount, .bool] fun a => norm_place_m a
theorem norm_place_ok : FnOk E 74 norm_place_W := Runs.fn (E := E) (ps := [.api_Node]) (rs := [.api_Mount, .bool]) norm_place_R norm_place_hO mix ⟨Tryz.func74, by kernel_rfl, by kernel_rfl⟩ (st := fun a => .e a) (fun _ => rfl) fun _ r h => ⟨r, h, rfl⟩
inductive mount_Parse_S where
  | e (x0 : List UInt8)
def mount_Parse_t : Tree (Mount × Int) mount_Parse_S := fun _ k _ n s => match s with
  | .e x0 => ck (okSp x0 ([58] : List UInt8) (0 : Int) (-1 : Int)) n (ck ((decide (0 ≤ (w64 (((spP x0 ([58] : List UInt8) (0 : Int) (-1 : Int)).length : Int) - (1 : Int)))) && decide ((w64 (((spP x0 ([58] : List UInt8) (0 : Int) (-1 : Int)).length : Int) - (1 : Int))) < ((spP x0 ([58] : List UInt8) (0 : Int) (-1 : Int)).length : Int))) || !(decide ((1 : Int) < ((spP x0 ([58] : List UInt8) (0 : Int) (-1 : Int)).length : Int)))) n (ck ((decide (0 ≤ (w64 (((spP x0 ([58] : List UInt8) (0 : Int) (-1 : Int)).length : Int) - (1 : Int)))) && decide ((w64 (((spP x0 ([58] : List UInt8) (0 : Int) (-1 : Int)).length : Int) - (1 : Int))) < ((spP x0 ([58] : List UInt8) (0 : Int) (-1 : Int)).length : Int))) || !((decide ((1 : Int) < ((spP x0 ([58] : List UInt8) (0 : Int) (-1 : Int)).length : Int))) && (!((List.getD (spP x0 ([58] : List UInt8) (0 : Int) (-1 : Int)) (Int.toNat (w64 (((spP x0 ([58] : List UInt8) (0 : Int) (-1 : Int)).length : Int) - (1 : Int)))) (dflt .str)) == ([114, 111] : List UInt8))))) n (bif (bif (decide ((1 : Int) < ((spP x0 ([58] : List UInt8) (0 : Int) (-1 : Int)).length : Int))) then (bif ((List.getD (spP x0 ([58] : List UInt8) (0 : Int) (-1 : Int)) (Int.toNat (w64 (((spP x0 ([58] : List UInt8) (0 : Int) (-1 : Int)).length : Int) - (1 : Int)))) (dflt .str)) == ([114, 111] : List UInt8)) then true else ((List.getD (spP x0 ([58] : List UInt8) (0 : Int) (-1 : Int)) (Int.toNat (w64 (((spP x0 ([58] : List UInt8) (0 : Int) (-1 : Int)).length : Int) - (1 : Int)))) (dflt .str)) == ([114, 119] : List UInt8))) else false) then (ix (spP x0 ([58] : List UInt8) (0 : Int) (-1 : Int)) (w64 (((spP x0 ([58] : List UInt8) (0 : Int) (-1 : Int)).length : Int) - (1 : Int))) n fun y1 => ck (cutOk (spP x0 ([58] : List UInt8) (0 : Int) (-1 : Int)) (0 : Int) (w64 (((spP x0 ([58] : List UInt8) (0 : Int) (-1 : Int)).length : Int) - (1 : Int)))) n (bif (((cut (spP x0 ([58] : List UInt8) (0 : Int) (-1 : Int)) (0 : Int) (w64 (((spP x0 ([58] : List UInt8) (0 : Int) (-1 : Int)).length : Int) - (1 : Int)))).length : Int) == (1 : Int)) then (ix (cut (spP x0 ([58] : List UInt8) (0 : Int) (-1 : Int)) (0 : Int) (w64 (((spP x0 ([58] : List UInt8) (0 : Int) (-1 : Int)).length : Int) - (1 : Int)))) (0 : Int) n fun y2 => cl (mount_Right_m (⟨([] : List UInt8), y2, (y1 == ([114, 111] : List UInt8))⟩ : Mount)) n fun y3 => bif (!y3) then k ((⟨([] : List UInt8), ([] : List UInt8), false⟩ : Mount), (3 : Int)) else k ((⟨([] : List UInt8), y2, (y1 == ([114, 111] : List UInt8))⟩ : Mount), (0 : Int))) else (bif (((cut (spP x0 ([58] : List UInt8) (0 : Int) (-1 : Int)) (0 : Int) (w64 (((spP x0 ([58] : List UInt8) (0 : Int) (-1 : Int)).length : Int) - (1 : Int)))).length : Int) == (2 : Int)) then (ix (cut (spP x0 ([58] : List UInt8) (0 : Int) (-1 : Int)) (0 : Int) (w64 (((spP x0 ([58] : List UInt8) (0 : Int) (-1 : Int)).length : Int) - (1 : Int)))) (0 : Int) n fun y4 => ix (cut (spP x0 ([58] : List UInt8) (0 : Int) (-1 : Int)) (0 : Int) (w64 (((spP x0 ([58] : List UInt8) (0 : Int) (-1 : Int)).length : Int) - (1 : Int)))) (1 : Int) n fun y5 => bif (y4 == ([] : List UInt8)) then k ((⟨([] : List UInt8), ([] : List UInt8), false⟩ : Mount), (3 : Int)) else (cl (mount_Right_m (⟨y4, y5, (y1 == ([114, 111] : List UInt8))⟩ : Mount)) n fun y6 => bif (!y6) then k ((⟨([] : List UInt8), ([] : List UInt8), false⟩ : Mount), (3 : Int)) else k ((⟨y4, y5, (y1 == ([114, 111] : List UInt8))⟩ : Mount), (0 : Int)))) else (cl (mount_Right_m (⟨([] : List UInt8), ([] : List UInt8), (y1 == ([114, 111] : List UInt8))⟩ : Mount)) n fun y7 => bif (!y7) then k ((⟨([] : List UInt8), ([] : List UInt8), false⟩ : Mount), (3 : Int)) else k ((⟨([] : List UInt8), ([] : List UInt8), (y1 == ([114, 111] : List UInt8))⟩ : Mount), (0 : Int)))))) else (bif (((spP x0 ([58] : List UInt8) (0 : Int) (-1 : Int)).length : Int) == (1 : Int)) then (ix (spP x0 ([58] : List UInt8) (0 : Int) (-1 : Int)) (0 : Int) n fun y8 => cl (mount_Right_m (⟨([] : List UInt8), y8, false⟩ : Mount)) n fun y9 => bif (!y9) then k ((⟨([] : List UInt8), ([] : List UInt8), false⟩ : Mount), (3 : Int)) else k ((⟨([] : List UInt8), y8, false⟩ : Mount), (0 : Int))) else (bif (((spP x0 ([58] : List UInt8) (0 : Int) (-1 : Int)).length : Int) == (2 : Int)) then (ix (spP x0 ([58] : List UInt8) (0 : Int) (-1 : Int)) (0 : Int) n fun y10 => ix (spP x0 ([58] : List UInt8) (0 : Int) (-1 : Int)) (1 : Int) n fun y11 => bif (y10 == ([] : List UInt8)) then k ((⟨([] : List UInt8), ([] : List UInt8), false⟩ : Mount), (3 : Int)) else (cl (mount_Right_m (⟨y10, y11, false⟩ : Mount)) n fun y12 => bif (!y12) then k ((⟨([] : List UInt8), ([] : List UInt8), false⟩ : Mount), (3 : Int)) else k ((⟨y10, y11, false⟩ : Mount), (0 : Int)))) else (cl (mount_Right_m (⟨([] : List UInt8), ([] : List UInt8), false⟩ : Mount)) n fun y13 => bif (!y13) then k ((⟨([] : List UInt8), ([] : List UInt8), false⟩ : Mount), (3 : Int)) else k ((⟨([] : List UInt8), ([] : List UInt8), false⟩ : Mount), (0 : Int))))))))
def mount_Parse_O : Oracle E := withI (orac [(112, mount_Right_W)] [(139, gsplit_R)]) [(110, Tryz.f110)]
theorem mount_Parse_hO : OracleOk E mount_Parse_O := withI_ok (orac_ok (.cons mount_Right_ok .nil) (.cons gsplit_rok .nil) .nil .nil) mix (.cons (f := 110) (fn := Tryz.f110) (by kernel_rfl) (by kernel_rfl) (by kernel_rfl) .nil)
def mount_Parse_H : Hint E := { frz := [3] }
def mount_Parse_C : mount_Parse_S → Hd E
  | .e x0 => .e [⟨.str, x0⟩]
theorem mount_Parse_N : NatT mount_Parse_t := fun τ k g n s => by cases s <;> simp only [mount_Parse_t, eA]
theorem mount_Parse_R : Runs (E := E) .fn mount_Parse_O Tryz.f75 mount_Parse_H mount_Parse_C (encA (E := E) [.api_Mount, .api_Errno]) mount_Parse_t := ⟨fun s G => by cases s <;> kernel_rfl, mount_Parse_N⟩
def mount_Parse_m (x0 : List UInt8) : Option (Mount × Int) := mu mount_Parse_t (.e x0)
def mount_Parse_W : FnW E := fnG (E := E) [.str] [.api_Mount, .api_Errno] fun a => mount_Parse_m a
theorem mount_Parse_ok : FnOk E 75 mount_Parse_W := Runs.fn (E := E) (ps := [.str]) (rs := [.api_Mount, .api_Errno]) mount_Parse_R mount_Parse_hO mix ⟨Tryz.func75, by kernel_rfl, by kernel_rfl⟩ (st := fun a => .e a) (fun _ => rfl) fun _ r h => ⟨r, h, rfl⟩
inductive mount_Text_S where
  | e (x0 : Mount)
def mount_Text_t : Tree ((List UInt8)) mount_Text_S := fun _ k _ n s => match s with
  | .e x0 => cl (mount_Right_m x0) n fun y1 => bif (!y1) then k ([] : List UInt8) else (bif (!(x0.source == ([] : List UInt8))) then (ck (decide (x0.source.length + ([58] : List UInt8).length ≤ maxStr)) n (ck (decide ((x0.source ++ ([58] : List UInt8)).length + x0.target.length ≤ maxStr)) n (bif x0.readOnly then (ck (decide (((x0.source ++ ([58] : List UInt8)) ++ x0.target).length + ([58, 114, 111] : List UInt8).length ≤ maxStr)) n (k (((x0.source ++ ([58] : List UInt8)) ++ x0.target) ++ ([58, 114, 111] : List UInt8)))) else k ((x0.source ++ ([58] : List UInt8)) ++ x0.target)))) else (bif x0.readOnly then (ck (decide (x0.target.length + ([58, 114, 111] : List UInt8).length ≤ maxStr)) n (k (x0.target ++ ([58, 114, 111] : List UInt8)))) else k x0.target))
def mount_Text_O : Oracle E := orac [(112, mount_Right_W)]
theorem mount_Text_hO : OracleOk E mount_Text_O := orac_ok (.cons mount_Right_ok .nil) .nil .nil .nil
def mount_Text_H : Hint E := {}
def mount_Text_C : mount_Text_S → Hd E
  | .e x0 => .e [⟨.api_Mount, x0⟩]
theorem mount_Text_N : NatT mount_Text_t := fun τ k g n s => by cases s <;> simp only [mount_Text_t, eA]
theorem mount_Text_R : Runs (E := E) .fn mount_Text_O Tryz.f76 mount_Text_H mount_Text_C (encA (E := E) [.str]) mount_Text_t := ⟨fun s G => by cases s <;> kernel_rfl, mount_Text_N⟩
def mount_Text_m (x0 : Mount) : Option ((List UInt8)) := mu mount_Text_t (.e x0)
def mount_Text_W : FnW E := fnG (E := E) [.api_Mount] [.str] fun a => mount_Text_m a
theorem mount_Text_ok : FnOk E 76 mount_Text_W := Runs.fn (E := E) (ps := [.api_Mount]) (rs := [.str]) mount_Text_R mount_Text_hO mix ⟨Tryz.func76, by kernel_rfl, by kernel_rfl⟩ (st := fun a => .e a) (fun _ => rfl) fun _ r h => ⟨r, h, rfl⟩
inductive norm_Mounts_S where
  | e (x0 : Node)
  | h0 (v0 : List Node) (v1 : Int) (v2 : Int) (v3 : Int) (v4 : List UInt8) (v5 : form)
  | h1 (v0 : List (List UInt8)) (v1 : Int) (v2 : Int) (v3 : Node) (v4 : Int) (v5 : List UInt8) (v6 : form)
def norm_Mounts_t : Tree (Node × Int) norm_Mounts_S := fun _ k g n s => match s with
  | .e x0 => cl (norm_members_m (etNode x0) (2 : Int)) n fun y1 => bif y1 then g (.h0 x0.kids (x0.kids.length : Int) (0 : Int) (0 : Int) ([] : List UInt8) (⟨(⟨(0 : Int), ([] : List UInt8), ([] : List (List UInt8)), ([] : List Node)⟩ : Node), false⟩ : form)) else (cl (norm_members_m (etNode x0) (3 : Int)) n fun y2 => bif y2 then g (.h1 x0.keys (x0.keys.length : Int) (0 : Int) x0 (0 : Int) ([] : List UInt8) (⟨(⟨(0 : Int), ([] : List UInt8), ([] : List (List UInt8)), ([] : List Node)⟩ : Node), false⟩ : form)) else (cl norm_none_m n fun y3 => k ((etNode (y3.1)), y3.2)))
  | .h0 v0 v1 v2 v3 v4 v5 => bif (decide (v2 < v1)) then (ck (inb v0 v2) n (cl (norm_place_m (etNode (List.getD v0 (Int.toNat v2) (dflt .api_Node)))) n fun y2 => bif ((List.getD v0 (Int.toNat v2) (dflt .api_Node)).kind == (1 : Int)) then (cl (mount_Parse_m ((List.getD v0 (Int.toNat v2) (dflt .api_Node)).text)) n fun y3 => cl (norm_form_fail_m (⟨(etNode v5.n), v5.bad⟩ : form) (!(y3.2 == (0 : Int)))) n fun y4 => cl (mount_Text_m (y3.1)) n fun y5 => cl (norm_form_put_m (⟨(etNode ((y4.1).n)), (y4.1).bad⟩ : form) ((y3.1).target) (txt1 y5)) n fun y6 => g (.h0 v0 v1 (w64 (v2 + (1 : Int))) v3 v4 (⟨(etNode ((y6.1).n)), (y6.1).bad⟩ : form))) else (cl (norm_form_fail_m (⟨(etNode v5.n), v5.bad⟩ : form) (!y2.2)) n fun y7 => cl (mount_Text_m (y2.1)) n fun y8 => cl (norm_form_put_m (⟨(etNode ((y7.1).n)), (y7.1).bad⟩ : form) ((y2.1).target) (txt1 y8)) n fun y9 => g (.h0 v0 v1 (w64 (v2 + (1 : Int))) v3 v4 (⟨(etNode ((y9.1).n)), (y9.1).bad⟩ : form))))) else (cl (norm_form_done_m (⟨(etNode v5.n), v5.bad⟩ : form)) n fun y10 => k ((etNode (y10.2.1)), y10.2.2))
  | .h1 v0 v1 v2 v3 v4 v5 v6 => bif (decide (v2 < v1)) then (ix v0 v2 n fun y1 => ix v3.kids v2 n fun y2 => cl (mount_Parse_m (y2.text)) n fun y3 => ck (((mount_Text_m (y3.1)).isSome) || !(!(bif (bif (y2.kind != (1 : Int)) then true else (y3.2 != (0 : Int))) then true else (!((y3.1).target == y1))))) n (cl (norm_form_fail_m (⟨(etNode v6.n), v6.bad⟩ : form) (bif (bif (bif (y2.kind != (1 : Int)) then true else (y3.2 != (0 : Int))) then true else (!((y3.1).target == y1))) then true else (!((gv (mount_Text_m (y3.1))) == y2.text)))) n fun y4 => cl (norm_form_put_m (⟨(etNode ((y4.1).n)), (y4.1).bad⟩ : form) y1 (etNode y2)) n fun y5 => g (.h1 v0 v1 (w64 (v2 + (1 : Int))) v3 v4 v5 (⟨(etNode ((y5.1).n)), (y5.1).bad⟩ : form)))) else (cl (norm_form_done_m (⟨(etNode v6.n), v6.bad⟩ : form)) n fun y6 => k ((etNode (y6.2.1)), y6.2.2))
def norm_Mounts_O : Oracle E := withB (orac [(75, mount_Parse_W), (76, mount_Text_W), (70, ntext_W), (51, norm_members_W), (66, norm_none_W), (74, norm_place_W)]) [(54, norm_form_done_B), (52, norm_form_fail_B), (53, norm_form_put_B)]
theorem norm_Mounts_hO : OracleOk E norm_Mounts_O := withB_ok (orac_ok (.cons mount_Parse_ok (.cons mount_Text_ok (.cons ntext_ok (.cons norm_members_ok (.cons norm_none_ok (.cons norm_place_ok .nil)))))) .nil .nil .nil) (.cons norm_form_done_bok (.cons norm_form_fail_bok (.cons norm_form_put_bok .nil)))
def norm_Mounts_H : Hint E := { live := [(0, [2, 4, 22, 23, 24]), (1, [1, 2, 4, 58, 59, 60])], nils := [(0, [(4, some 2, false, .str), (4, some 3, false, .api_Node)]), (1, [(4, some 2, false, .str), (4, some 3, false, .api_Node)])] }
def norm_Mounts_C : norm_Mounts_S → Hd E
  | .e x0 => .e [⟨.api_Node, x0⟩]
  | .h0 v0 v1 v2 v3 v4 v5 => .h 0 ⟨104, [(2, .ptr 0 0), (4, .ptr 1 0), (22, .d (.slice .api_Node v0)), (23, .d (.int .i64 v1)), (24, .d (.int .i64 v2))], [(0, .box [.d (.int .i64 v3), .d (.str v4), .d (.raw (.slice none 0 0)), .d (.raw (.slice none 0 0))]), (1, .box [.d (.int .i64 v5.n.kind), .d (.str v5.n.text), .d (.slice .str v5.n.keys), .d (.slice .api_Node v5.n.kids), .d (.bool v5.bad)])], 2⟩
  | .h1 v0 v1 v2 v3 v4 v5 v6 => .h 1 ⟨104, [(1, .ptr 0 0), (2, .ptr 1 0), (4, .ptr 2 0), (58, .d (.slice .str v0)), (59, .d (.int .i64 v1)), (60, .d (.int .i64 v2))], [(0, .box [.d (.int .i64 v3.kind), .d (.str v3.text), .d (.slice .str v3.keys), .d (.slice .api_Node v3.kids)]), (1, .box [.d (.int .i64 v4), .d (.str v5), .d (.raw (.slice none 0 0)), .d (.raw (.slice none 0 0))]), (2, .box [.d (.int .i64 v6.n.kind), .d (.str v6.n.text), .d (.slice .str v6.n.keys), .d (.slice .api_Node v6.n.kids), .d (.bool v6.bad)])], 3⟩
theorem norm_Mounts_N : NatT norm_Mounts_t := fun τ k g n s => by cases s <;> simp only [norm_Mounts_t, eA]
theorem norm_Mounts_R : Runs (E := E) .fn norm_Mounts_O Tryz.f34 norm_Mounts_H norm_Mounts_C (encA (E := E) [.api_Node, .api_Errno]) norm_Mounts_t := ⟨fun s G => by cases s <;> kernel_rfl, norm_Mounts_N⟩
def norm_Mounts_m (x0 : Node) : Option (Node × Int) := mu norm_Mounts_t (.e x0)
def norm_Mounts_W : FnW E := fnG (E := E) [.api_Node] [.api_Node, .api_Errno] fun a => norm_Mounts_m a
theorem norm_Mounts_ok : FnOk E 34 norm_Mounts_W := Runs.fn (E := E) (ps := [.api_Node]) (rs := [.api_Node, .api_Errno]) norm_Mounts_R norm_Mounts_hO mix ⟨Tryz.func34, by kernel_rfl, by kernel_rfl⟩ (st := fun a => .e a) (fun _ => rfl) fun _ r h => ⟨r, h, rfl⟩
inductive schema_each__schema_Service_1_S where
  | e (x0 : Node)
  | h0 (v0 : List (List UInt8)) (v1 : Int) (v2 : Int) (v3 : Node) (v4 : Int) (v5 : List UInt8) (v6 : Node)
def schema_each__schema_Service_1_t : Tree (Node × (List UInt8) × Int) schema_each__schema_Service_1_S := fun _ k g n s => match s with
  | .e x0 => bif (x0.kind == (0 : Int)) then k ((⟨(3 : Int), ([] : List UInt8), ([] : List (List UInt8)), ([] : List Node)⟩ : Node), ([] : List UInt8), (0 : Int)) else (bif (x0.kind != (3 : Int)) then k ((⟨(0 : Int), ([] : List UInt8), ([] : List (List UInt8)), ([] : List Node)⟩ : Node), ([] : List UInt8), (10 : Int)) else g (.h0 x0.keys (x0.keys.length : Int) (0 : Int) x0 (0 : Int) ([] : List UInt8) (⟨(3 : Int), ([] : List UInt8), ([] : List (List UInt8)), ([] : List Node)⟩ : Node)))
  | .h0 v0 v1 v2 v3 v4 v5 v6 => bif (decide (v2 < v1)) then (ix v0 v2 n fun y1 => ix v3.kids v2 n fun y2 => cl (schema_foreign_m y1) n fun y3 => bif y3 then g (.h0 v0 v1 (w64 (v2 + (1 : Int))) v3 v4 v5 v6) else (bif (y1 == ([105, 109, 97, 103, 101] : List UInt8)) then (bif (y2.kind == (0 : Int)) then (bif (y2.kind != (0 : Int)) then (ck (okWp (etNode v6) y1 (etNode y2)) n (g (.h0 v0 v1 (w64 (v2 + (1 : Int))) v3 v4 v5 (withP (etNode v6) y1 (etNode y2))))) else g (.h0 v0 v1 (w64 (v2 + (1 : Int))) v3 v4 v5 v6)) else (cl (norm_Line_m (etNode y2)) n fun y4 => bif (y4.2 != (0 : Int)) then k ((⟨(0 : Int), ([] : List UInt8), ([] : List (List UInt8)), ([] : List Node)⟩ : Node), y1, y4.2) else (bif ((y4.1).kind != (0 : Int)) then (ck (okWp (etNode v6) y1 (etNode (y4.1))) n (g (.h0 v0 v1 (w64 (v2 + (1 : Int))) v3 v4 v5 (withP (etNode v6) y1 (etNode (y4.1)))))) else g (.h0 v0 v1 (w64 (v2 + (1 : Int))) v3 v4 v5 v6)))) else (bif (y1 == ([99, 111, 109, 109, 97, 110, 100] : List UInt8)) then (bif (y2.kind == (0 : Int)) then (bif (y2.kind != (0 : Int)) then (ck (okWp (etNode v6) y1 (etNode y2)) n (g (.h0 v0 v1 (w64 (v2 + (1 : Int))) v3 v4 v5 (withP (etNode v6) y1 (etNode y2))))) else g (.h0 v0 v1 (w64 (v2 + (1 : Int))) v3 v4 v5 v6)) else (cl (norm_Words_m (etNode y2)) n fun y5 => bif (y5.2 != (0 : Int)) then k ((⟨(0 : Int), ([] : List UInt8), ([] : List (List UInt8)), ([] : List Node)⟩ : Node), y1, y5.2) else (bif ((y5.1).kind != (0 : Int)) then (ck (okWp (etNode v6) y1 (etNode (y5.1))) n (g (.h0 v0 v1 (w64 (v2 + (1 : Int))) v3 v4 v5 (withP (etNode v6) y1 (etNode (y5.1)))))) else g (.h0 v0 v1 (w64 (v2 + (1 : Int))) v3 v4 v5 v6)))) else (bif (y1 == ([101, 110, 118, 105, 114, 111, 110, 109, 101, 110, 116] : List UInt8)) then (bif (y1 == ([101, 110, 118, 105, 114, 111, 110, 109, 101, 110, 116] : List UInt8)) then (bif (y2.kind == (0 : Int)) then (bif (y2.kind != (0 : Int)) then (ck (okWp (etNode v6) y1 (etNode y2)) n (g (.h0 v0 v1 (w64 (v2 + (1 : Int))) v3 v4 v5 (withP (etNode v6) y1 (etNode y2))))) else g (.h0 v0 v1 (w64 (v2 + (1 : Int))) v3 v4 v5 v6)) else (cl (norm_Pairs_m (etNode y2) (y1 == ([101, 110, 118, 105, 114, 111, 110, 109, 101, 110, 116] : List UInt8))) n fun y6 => bif (y6.2 != (0 : Int)) then k ((⟨(0 : Int), ([] : List UInt8), ([] : List (List UInt8)), ([] : List Node)⟩ : Node), y1, y6.2) else (bif ((y6.1).kind != (0 : Int)) then (ck (okWp (etNode v6) y1 (etNode (y6.1))) n (g (.h0 v0 v1 (w64 (v2 + (1 : Int))) v3 v4 v5 (withP (etNode v6) y1 (etNode (y6.1)))))) else g (.h0 v0 v1 (w64 (v2 + (1 : Int))) v3 v4 v5 v6)))) else (bif (y1 == ([112, 111, 114, 116, 115] : List UInt8)) then (bif (y2.kind == (0 : Int)) then (bif (y2.kind != (0 : Int)) then (ck (okWp (etNode v6) y1 (etNode y2)) n (g (.h0 v0 v1 (w64 (v2 + (1 : Int))) v3 v4 v5 (withP (etNode v6) y1 (etNode y2))))) else g (.h0 v0 v1 (w64 (v2 + (1 : Int))) v3 v4 v5 v6)) else (cl (norm_Ports_m (etNode y2)) n fun y7 => bif (y7.2 != (0 : Int)) then k ((⟨(0 : Int), ([] : List UInt8), ([] : List (List UInt8)), ([] : List Node)⟩ : Node), y1, y7.2) else (bif ((y7.1).kind != (0 : Int)) then (ck (okWp (etNode v6) y1 (etNode (y7.1))) n (g (.h0 v0 v1 (w64 (v2 + (1 : Int))) v3 v4 v5 (withP (etNode v6) y1 (etNode (y7.1)))))) else g (.h0 v0 v1 (w64 (v2 + (1 : Int))) v3 v4 v5 v6)))) else (bif (y1 == ([118, 111, 108, 117, 109, 101, 115] : List UInt8)) then (bif (y2.kind == (0 : Int)) then (bif (y2.kind != (0 : Int)) then (ck (okWp (etNode v6) y1 (etNode y2)) n (g (.h0 v0 v1 (w64 (v2 + (1 : Int))) v3 v4 v5 (withP (etNode v6) y1 (etNode y2))))) else g (.h0 v0 v1 (w64 (v2 + (1 : Int))) v3 v4 v5 v6)) else (cl (norm_Mounts_m (etNode y2)) n fun y8 => bif (y8.2 != (0 : Int)) then k ((⟨(0 : Int), ([] : List UInt8), ([] : List (List UInt8)), ([] : List Node)⟩ : Node), y1, y8.2) else (bif ((y8.1).kind != (0 : Int)) then (ck (okWp (etNode v6) y1 (etNode (y8.1))) n (g (.h0 v0 v1 (w64 (v2 + (1 : Int))) v3 v4 v5 (withP (etNode v6) y1 (etNode (y8.1)))))) else g (.h0 v0 v1 (w64 (v2 + (1 : Int))) v3 v4 v5 v6)))) else (bif (y1 == ([110, 101, 116, 119, 111, 114, 107, 115] : List UInt8)) then (bif (y1 == ([110, 101, 116, 119, 111, 114, 107, 115] : List UInt8)) then (bif (y2.kind == (0 : Int)) then (bif (y2.kind != (0 : Int)) then (ck (okWp (etNode v6) y1 (etNode y2)) n (g (.h0 v0 v1 (w64 (v2 + (1 : Int))) v3 v4 v5 (withP (etNode v6) y1 (etNode y2))))) else g (.h0 v0 v1 (w64 (v2 + (1 : Int))) v3 v4 v5 v6)) else (cl (norm_Set_m (etNode y2)) n fun y9 => bif (y9.2 != (0 : Int)) then k ((⟨(0 : Int), ([] : List UInt8), ([] : List (List UInt8)), ([] : List Node)⟩ : Node), y1, y9.2) else (bif ((y9.1).kind != (0 : Int)) then (ck (okWp (etNode v6) y1 (etNode (y9.1))) n (g (.h0 v0 v1 (w64 (v2 + (1 : Int))) v3 v4 v5 (withP (etNode v6) y1 (etNode (y9.1)))))) else g (.h0 v0 v1 (w64 (v2 + (1 : Int))) v3 v4 v5 v6)))) else (bif (y1 == ([100, 101, 112, 101, 110, 100, 115, 95, 111, 110] : List UInt8)) then (bif (y2.kind == (0 : Int)) then (bif (y2.kind != (0 : Int)) then (ck (okWp (etNode v6) y1 (etNode y2)) n (g (.h0 v0 v1 (w64 (v2 + (1 : Int))) v3 v4 v5 (withP (etNode v6) y1 (etNode y2))))) else g (.h0 v0 v1 (w64 (v2 + (1 : Int))) v3 v4 v5 v6)) else (cl (norm_Deps_m (etNode y2)) n fun y10 => bif (y10.2 != (0 : Int)) then k ((⟨(0 : Int), ([] : List UInt8), ([] : List (List UInt8)), ([] : List Node)⟩ : Node), y1, y10.2) else (bif ((y10.1).kind != (0 : Int)) then (ck (okWp (etNode v6) y1 (etNode (y10.1))) n (g (.h0 v0 v1 (w64 (v2 + (1 : Int))) v3 v4 v5 (withP (etNode v6) y1 (etNode (y10.1)))))) else g (.h0 v0 v1 (w64 (v2 + (1 : Int))) v3 v4 v5 v6)))) else (bif (y1 == ([101, 120, 116, 101, 110, 100, 115] : List UInt8)) then (bif (y2.kind == (0 : Int)) then (bif (y2.kind != (0 : Int)) then (ck (okWp (etNode v6) y1 (etNode y2)) n (g (.h0 v0 v1 (w64 (v2 + (1 : Int))) v3 v4 v5 (withP (etNode v6) y1 (etNode y2))))) else g (.h0 v0 v1 (w64 (v2 + (1 : Int))) v3 v4 v5 v6)) else (cl (norm_Extends_m (etNode y2)) n fun y11 => bif (y11.2 != (0 : Int)) then k ((⟨(0 : Int), ([] : List UInt8), ([] : List (List UInt8)), ([] : List Node)⟩ : Node), y1, y11.2) else (bif ((y11.1).kind != (0 : Int)) then (ck (okWp (etNode v6) y1 (etNode (y11.1))) n (g (.h0 v0 v1 (w64 (v2 + (1 : Int))) v3 v4 v5 (withP (etNode v6) y1 (etNode (y11.1)))))) else g (.h0 v0 v1 (w64 (v2 + (1 : Int))) v3 v4 v5 v6)))) else (bif (y1 == ([104, 101, 97, 108, 116, 104, 99, 104, 101, 99, 107] : List UInt8)) then (bif (y2.kind == (0 : Int)) then (bif (y2.kind != (0 : Int)) then (ck (okWp (etNode v6) y1 (etNode y2)) n (g (.h0 v0 v1 (w64 (v2 + (1 : Int))) v3 v4 v5 (withP (etNode v6) y1 (etNode y2))))) else g (.h0 v0 v1 (w64 (v2 + (1 : Int))) v3 v4 v5 v6)) else (cl (norm_Health_m (etNode y2)) n fun y12 => bif (y12.2 != (0 : Int)) then k ((⟨(0 : Int), ([] : List UInt8), ([] : List (List UInt8)), ([] : List Node)⟩ : Node), y1, y12.2) else (bif ((y12.1).kind != (0 : Int)) then (ck (okWp (etNode v6) y1 (etNode (y12.1))) n (g (.h0 v0 v1 (w64 (v2 + (1 : Int))) v3 v4 v5 (withP (etNode v6) y1 (etNode (y12.1)))))) else g (.h0 v0 v1 (w64 (v2 + (1 : Int))) v3 v4 v5 v6)))) else (bif (y1 == ([114, 101, 115, 116, 97, 114, 116] : List UInt8)) then (bif (y2.kind == (0 : Int)) then (bif (y2.kind != (0 : Int)) then (ck (okWp (etNode v6) y1 (etNode y2)) n (g (.h0 v0 v1 (w64 (v2 + (1 : Int))) v3 v4 v5 (withP (etNode v6) y1 (etNode y2))))) else g (.h0 v0 v1 (w64 (v2 + (1 : Int))) v3 v4 v5 v6)) else (cl (norm_Restart_m (etNode y2)) n fun y13 => bif (y13.2 != (0 : Int)) then k ((⟨(0 : Int), ([] : List UInt8), ([] : List (List UInt8)), ([] : List Node)⟩ : Node), y1, y13.2) else (bif ((y13.1).kind != (0 : Int)) then (ck (okWp (etNode v6) y1 (etNode (y13.1))) n (g (.h0 v0 v1 (w64 (v2 + (1 : Int))) v3 v4 v5 (withP (etNode v6) y1 (etNode (y13.1)))))) else g (.h0 v0 v1 (w64 (v2 + (1 : Int))) v3 v4 v5 v6)))) else (bif (y1 == ([115, 99, 97, 108, 101] : List UInt8)) then (bif (y2.kind == (0 : Int)) then (bif (y2.kind != (0 : Int)) then (ck (okWp (etNode v6) y1 (etNode y2)) n (g (.h0 v0 v1 (w64 (v2 + (1 : Int))) v3 v4 v5 (withP (etNode v6) y1 (etNode y2))))) else g (.h0 v0 v1 (w64 (v2 + (1 : Int))) v3 v4 v5 v6)) else (cl (norm_Count_m (etNode y2)) n fun y14 => bif (y14.2 != (0 : Int)) then k ((⟨(0 : Int), ([] : List UInt8), ([] : List (List UInt8)), ([] : List Node)⟩ : Node), y1, y14.2) else (bif ((y14.1).kind != (0 : Int)) then (ck (okWp (etNode v6) y1 (etNode (y14.1))) n (g (.h0 v0 v1 (w64 (v2 + (1 : Int))) v3 v4 v5 (withP (etNode v6) y1 (etNode (y14.1)))))) else g (.h0 v0 v1 (w64 (v2 + (1 : Int))) v3 v4 v5 v6)))) else (bif (y1 == ([99, 112, 117, 115] : List UInt8)) then (bif (y2.kind == (0 : Int)) then (bif (y2.kind != (0 : Int)) then (ck (okWp (etNode v6) y1 (etNode y2)) n (g (.h0 v0 v1 (w64 (v2 + (1 : Int))) v3 v4 v5 (withP (etNode v6) y1 (etNode y2))))) else g (.h0 v0 v1 (w64 (v2 + (1 : Int))) v3 v4 v5 v6)) else (cl (norm_Cpus_m (etNode y2)) n fun y15 => bif (y15.2 != (0 : Int)) then k ((⟨(0 : Int), ([] : List UInt8), ([] : List (List UInt8)), ([] : List Node)⟩ : Node), y1, y15.2) else (bif ((y15.1).kind != (0 : Int)) then (ck (okWp (etNode v6) y1 (etNode (y15.1))) n (g (.h0 v0 v1 (w64 (v2 + (1 : Int))) v3 v4 v5 (withP (etNode v6) y1 (etNode (y15.1)))))) else g (.h0 v0 v1 (w64 (v2 + (1 : Int))) v3 v4 v5 v6)))) else (bif (y1 == ([109, 101, 109, 95, 108, 105, 109, 105, 116] : List UInt8)) then (bif (y2.kind == (0 : Int)) then (bif (y2.kind != (0 : Int)) then (ck (okWp (etNode v6) y1 (etNode y2)) n (g (.h0 v0 v1 (w64 (v2 + (1 : Int))) v3 v4 v5 (withP (etNode v6) y1 (etNode y2))))) else g (.h0 v0 v1 (w64 (v2 + (1 : Int))) v3 v4 v5 v6)) else (cl (norm_Bytes_m (etNode y2)) n fun y16 => bif (y16.2 != (0 : Int)) then k ((⟨(0 : Int), ([] : List UInt8), ([] : List (List UInt8)), ([] : List Node)⟩ : Node), y1, y16.2) else (bif ((y16.1).kind != (0 : Int)) then (ck (okWp (etNode v6) y1 (etNode (y16.1))) n (g (.h0 v0 v1 (w64 (v2 + (1 : Int))) v3 v4 v5 (withP (etNode v6) y1 (etNode (y16.1)))))) else g (.h0 v0 v1 (w64 (v2 + (1 : Int))) v3 v4 v5 v6)))) else k ((⟨(0 : Int), ([] : List UInt8), ([] : List (List UInt8)), ([] : List Node)⟩ : Node), y1, (10 : Int)))))))))) else (bif (y1 == ([112, 114, 111, 102, 105, 108, 101, 115] : List UInt8)) then (bif (y2.kind == (0 : Int)) then (bif (y2.kind != (0 : Int)) then (ck (okWp (etNode v6) y1 (etNode y2)) n (g (.h0 v0 v1 (w64 (v2 + (1 : Int))) v3 v4 v5 (withP (etNode v6) y1 (etNode y2))))) else g (.h0 v0 v1 (w64 (v2 + (1 : Int))) v3 v4 v5 v6)) else (cl (norm_Set_m (etNode y2)) n fun y17 => bif (y17.2 != (0 : Int)) then k ((⟨(0 : Int), ([] : List UInt8), ([] : List (List UInt8)), ([] : List Node)⟩ : Node), y1, y17.2) else (bif ((y17.1).kind != (0 : Int)) then (ck (okWp (etNode v6) y1 (etNode (y17.1))) n (g (.h0 v0 v1 (w64 (v2 + (1 : Int))) v3 v4 v5 (withP (etNode v6) y1 (etNode (y17.1)))))) else g (.h0 v0 v1 (w64 (v2 + (1 : Int))) v3 v4 v5 v6)))) else (bif (y1 == ([100, 101, 112, 101, 110, 100, 115, 95, 111, 110] : List UInt8)) then (bif (y2.kind == (0 : Int)) then (bif (y2.kind != (0 : Int)) then (ck (okWp (etNode v6) y1 (etNode y2)) n (g (.h0 v0 v1 (w64 (v2 + (1 : Int))) v3 v4 v5 (withP (etNode v6) y1 (etNode y2))))) else g (.h0 v0 v1 (w64 (v2 + (1 : Int))) v3 v4 v5 v6)) else (cl (norm_Deps_m (etNode y2)) n fun y18 => bif (y18.2 != (0 : Int)) then k ((⟨(0 : Int), ([] : List UInt8), ([] : List (List UInt8)), ([] : List Node)⟩ : Node), y1, y18.2) else (bif ((y18.1).kind != (0 : Int)) then (ck (okWp (etNode v6) y1 (etNode (y18.1))) n (g (.h0 v0 v1 (w64 (v2 + (1 : Int))) v3 v4 v5 (withP (etNode v6) y1 (etNode (y18.1)))))) else g (.h0 v0 v1 (w64 (v2 + (1 : Int))) v3 v4 v5 v6)))) else (bif (y1 == ([101, 120, 116, 101, 110, 100, 115] : List UInt8)) then (bif (y2.kind == (0 : Int)) then (bif (y2.kind != (0 : Int)) then (ck (okWp (etNode v6) y1 (etNode y2)) n (g (.h0 v0 v1 (w64 (v2 + (1 : Int))) v3 v4 v5 (withP (etNode v6) y1 (etNode y2))))) else g (.h0 v0 v1 (w64 (v2 + (1 : Int))) v3 v4 v5 v6)) else (cl (norm_Extends_m (etNode y2)) n fun y19 => bif (y19.2 != (0 : Int)) then k ((⟨(0 : Int), ([] : List UInt8), ([] : List (List UInt8)), ([] : List Node)⟩ : Node), y1, y19.2) else (bif ((y19.1).kind != (0 : Int)) then (ck (okWp (etNode v6) y1 (etNode (y19.1))) n (g (.h0 v0 v1 (w64 (v2 + (1 : Int))) v3 v4 v5 (withP (etNode v6) y1 (etNode (y19.1)))))) else g (.h0 v0 v1 (w64 (v2 + (1 : Int))) v3 v4 v5 v6)))) else (bif (y1 == ([104, 101, 97, 108, 116, 104, 99, 104, 101, 99, 107] : List UInt8)) then (bif (y2.kind == (0 : Int)) then (bif (y2.kind != (0 : Int)) then (ck (okWp (etNode v6) y1 (etNode y2)) n (g (.h0 v0 v1 (w64 (v2 + (1 : Int))) v3 v4 v5 (withP (etNode v6) y1 (etNode y2))))) else g (.h0 v0 v1 (w64 (v2 + (1 : Int))) v3 v4 v5 v6)) else (cl (norm_Health_m (etNode y2)) n fun y20 => bif (y20.2 != (0 : Int)) then k ((⟨(0 : Int), ([] : List UInt8), ([] : List (List UInt8)), ([] : List Node)⟩ : Node), y1, y20.2) else (bif ((y20.1).kind != (0 : Int)) then (ck (okWp (etNode v6) y1 (etNode (y20.1))) n (g (.h0 v0 v1 (w64 (v2 + (1 : Int))) v3 v4 v5 (withP (etNode v6) y1 (etNode (y20.1)))))) else g (.h0 v0 v1 (w64 (v2 + (1 : Int))) v3 v4 v5 v6)))) else (bif (y1 == ([114, 101, 115, 116, 97, 114, 116] : List UInt8)) then (bif (y2.kind == (0 : Int)) then (bif (y2.kind != (0 : Int)) then (ck (okWp (etNode v6) y1 (etNode y2)) n (g (.h0 v0 v1 (w64 (v2 + (1 : Int))) v3 v4 v5 (withP (etNode v6) y1 (etNode y2))))) else g (.h0 v0 v1 (w64 (v2 + (1 : Int))) v3 v4 v5 v6)) else (cl (norm_Restart_m (etNode y2)) n fun y21 => bif (y21.2 != (0 : Int)) then k ((⟨(0 : Int), ([] : List UInt8), ([] : List (List UInt8)), ([] : List Node)⟩ : Node), y1, y21.2) else (bif ((y21.1).kind != (0 : Int)) then (ck (okWp (etNode v6) y1 (etNode (y21.1))) n (g (.h0 v0 v1 (w64 (v2 + (1 : Int))) v3 v4 v5 (withP (etNode v6) y1 (etNode (y21.1)))))) else g (.h0 v0 v1 (w64 (v2 + (1 : Int))) v3 v4 v5 v6)))) else (bif (y1 == ([115, 99, 97, 108, 101] : List UInt8)) then (bif (y2.kind == (0 : Int)) then (bif (y2.kind != (0 : Int)) then (ck (okWp (etNode v6) y1 (etNode y2)) n (g (.h0 v0 v1 (w64 (v2 + (1 : Int))) v3 v4 v5 (withP (etNode v6) y1 (etNode y2))))) else g (.h0 v0 v1 (w64 (v2 + (1 : Int))) v3 v4 v5 v6)) else (cl (norm_Count_m (etNode y2)) n fun y22 => bif (y22.2 != (0 : Int)) then k ((⟨(0 : Int), ([] : List UInt8), ([] : List (List UInt8)), ([] : List Node)⟩ : Node), y1, y22.2) else (bif ((y22.1).kind != (0 : Int)) then (ck (okWp (etNode v6) y1 (etNode (y22.1))) n (g (.h0 v0 v1 (w64 (v2 + (1 : Int))) v3 v4 v5 (withP (etNode v6) y1 (etNode (y22.1)))))) else g (.h0 v0 v1 (w64 (v2 + (1 : Int))) v3 v4 v5 v6)))) else (bif (y1 == ([99, 112, 117, 115] : List UInt8)) then (bif (y2.kind == (0 : Int)) then (bif (y2.kind != (0 : Int)) then (ck (okWp (etNode v6) y1 (etNode y2)) n (g (.h0 v0 v1 (w64 (v2 + (1 : Int))) v3 v4 v5 (withP (etNode v6) y1 (etNode y2))))) else g (.h0 v0 v1 (w64 (v2 + (1 : Int))) v3 v4 v5 v6)) else (cl (norm_Cpus_m (etNode y2)) n fun y23 => bif (y23.2 != (0 : Int)) then k ((⟨(0 : Int), ([] : List UInt8), ([] : List (List UInt8)), ([] : List Node)⟩ : Node), y1, y23.2) else (bif ((y23.1).kind != (0 : Int)) then (ck (okWp (etNode v6) y1 (etNode (y23.1))) n (g (.h0 v0 v1 (w64 (v2 + (1 : Int))) v3 v4 v5 (withP (etNode v6) y1 (etNode (y23.1)))))) else g (.h0 v0 v1 (w64 (v2 + (1 : Int))) v3 v4 v5 v6)))) else (bif (y1 == ([109, 101, 109, 95, 108, 105, 109, 105, 116] : List UInt8)) then (bif (y2.kind == (0 : Int)) then (bif (y2.kind != (0 : Int)) then (ck (okWp (etNode v6) y1 (etNode y2)) n (g (.h0 v0 v1 (w64 (v2 + (1 : Int))) v3 v4 v5 (withP (etNode v6) y1 (etNode y2))))) else g (.h0 v0 v1 (w64 (v2 + (1 : Int))) v3 v4 v5 v6)) else (cl (norm_Bytes_m (etNode y2)) n fun y24 => bif (y24.2 != (0 : Int)) then k ((⟨(0 : Int), ([] : List UInt8), ([] : List (List UInt8)), ([] : List Node)⟩ : Node), y1, y24.2) else (bif ((y24.1).kind != (0 : Int)) then (ck (okWp (etNode v6) y1 (etNode (y24.1))) n (g (.h0 v0 v1 (w64 (v2 + (1 : Int))) v3 v4 v5 (withP (etNode v6) y1 (etNode (y24.1)))))) else g (.h0 v0 v1 (w64 (v2 + (1 : Int))) v3 v4 v5 v6)))) else k ((⟨(0 : Int), ([] : List UInt8), ([] : List (List UInt8)), ([] : List Node)⟩ : Node), y1, (10 : Int)))))))))))))) else (bif (y1 == ([108, 97, 98, 101, 108, 115] : List UInt8)) then (bif (y2.kind == (0 : Int)) then (bif (y2.kind != (0 : Int)) then (ck (okWp (etNode v6) y1 (etNode y2)) n (g (.h0 v0 v1 (w64 (v2 + (1 : Int))) v3 v4 v5 (withP (etNode v6) y1 (etNode y2))))) else g (.h0 v0 v1 (w64 (v2 + (1 : Int))) v3 v4 v5 v6)) else (cl (norm_Pairs_m (etNode y2) (y1 == ([101, 110, 118, 105, 114, 111, 110, 109, 101, 110, 116] : List UInt8))) n fun y25 => bif (y25.2 != (0 : Int)) then k ((⟨(0 : Int), ([] : List UInt8), ([] : List (List UInt8)), ([] : List Node)⟩ : Node), y1, y25.2) else (bif ((y25.1).kind != (0 : Int)) then (ck (okWp (etNode v6) y1 (etNode (y25.1))) n (g (.h0 v0 v1 (w64 (v2 + (1 : Int))) v3 v4 v5 (withP (etNode v6) y1 (etNode (y25.1)))))) else g (.h0 v0 v1 (w64 (v2 + (1 : Int))) v3 v4 v5 v6)))) else (bif (y1 == ([112, 111, 114, 116, 115] : List UInt8)) then (bif (y2.kind == (0 : Int)) then (bif (y2.kind != (0 : Int)) then (ck (okWp (etNode v6) y1 (etNode y2)) n (g (.h0 v0 v1 (w64 (v2 + (1 : Int))) v3 v4 v5 (withP (etNode v6) y1 (etNode y2))))) else g (.h0 v0 v1 (w64 (v2 + (1 : Int))) v3 v4 v5 v6)) else (cl (norm_Ports_m (etNode y2)) n fun y26 => bif (y26.2 != (0 : Int)) then k ((⟨(0 : Int), ([] : List UInt8), ([] : List (List UInt8)), ([] : List Node)⟩ : Node), y1, y26.2) else (bif ((y26.1).kind != (0 : Int)) then (ck (okWp (etNode v6) y1 (etNode (y26.1))) n (g (.h0 v0 v1 (w64 (v2 + (1 : Int))) v3 v4 v5 (withP (etNode v6) y1 (etNode (y26.1)))))) else g (.h0 v0 v1 (w64 (v2 + (1 : Int))) v3 v4 v5 v6)))) else (bif (y1 == ([118, 111, 108, 117, 109, 101, 115] : List UInt8)) then (bif (y2.kind == (0 : Int)) then (bif (y2.kind != (0 : Int)) then (ck (okWp (etNode v6) y1 (etNode y2)) n (g (.h0 v0 v1 (w64 (v2 + (1 : Int))) v3 v4 v5 (withP (etNode v6) y1 (etNode y2))))) else g (.h0 v0 v1 (w64 (v2 + (1 : Int))) v3 v4 v5 v6)) else (cl (norm_Mounts_m (etNode y2)) n fun y27 => bif (y27.2 != (0 : Int)) then k ((⟨(0 : Int), ([] : List UInt8), ([] : List (List UInt8)), ([] : List Node)⟩ : Node), y1, y27.2) else (bif ((y27.1).kind != (0 : Int)) then (ck (okWp (etNode v6) y1 (etNode (y27.1))) n (g (.h0 v0 v1 (w64 (v2 + (1 : Int))) v3 v4 v5 (withP (etNode v6) y1 (etNode (y27.1)))))) else g (.h0 v0 v1 (w64 (v2 + (1 : Int))) v3 v4 v5 v6)))) else (bif (y1 == ([110, 101, 116, 119, 111, 114, 107, 115] : List UInt8)) then (bif (y1 == ([110, 101, 116, 119, 111, 114, 107, 115] : List UInt8)) then (bif (y2.kind == (0 : Int)) then (bif (y2.kind != (0 : Int)) then (ck (okWp (etNode v6) y1 (etNode y2)) n (g (.h0 v0 v1 (w64 (v2 + (1 : Int))) v3 v4 v5 (withP (etNode v6) y1 (etNode y2))))) else g (.h0 v0 v1 (w64 (v2 + (1 : Int))) v3 v4 v5 v6)) else (cl (norm_Set_m (etNode y2)) n fun y28 => bif (y28.2 != (0 : Int)) then k ((⟨(0 : Int), ([] : List UInt8), ([] : List (List UInt8)), ([] : List Node)⟩ : Node), y1, y28.2) else (bif ((y28.1).kind != (0 : Int)) then (ck (okWp (etNode v6) y1 (etNode (y28.1))) n (g (.h0 v0 v1 (w64 (v2 + (1 : Int))) v3 v4 v5 (withP (etNode v6) y1 (etNode (y28.1)))))) else g (.h0 v0 v1 (w64 (v2 + (1 : Int))) v3 v4 v5 v6)))) else (bif (y1 == ([100, 101, 112, 101, 110, 100, 115, 95, 111, 110] : List UInt8)) then (bif (y2.kind == (0 : Int)) then (bif (y2.kind != (0 : Int)) then (ck (okWp (etNode v6) y1 (etNode y2)) n (g (.h0 v0 v1 (w64 (v2 + (1 : Int))) v3 v4 v5 (withP (etNode v6) y1 (etNode y2))))) else g (.h0 v0 v1 (w64 (v2 + (1 : Int))) v3 v4 v5 v6)) else (cl (norm_Deps_m (etNode y2)) n fun y29 => bif (y29.2 != (0 : Int)) then k ((⟨(0 : Int), ([] : List UInt8), ([] : List (List UInt8)), ([] : List Node)⟩ : Node), y1, y29.2) else (bif ((y29.1).kind != (0 : Int)) then (ck (okWp (etNode v6) y1 (etNode (y29.1))) n (g (.h0 v0 v1 (w64 (v2 + (1 : Int))) v3 v4 v5 (withP (etNode v6) y1 (etNode (y29.1)))))) else g (.h0 v0 v1 (w64 (v2 + (1 : Int))) v3 v4 v5 v6)))) else (bif (y1 == ([101, 120, 116, 101, 110, 100, 115] : List UInt8)) then (bif (y2.kind == (0 : Int)) then (bif (y2.kind != (0 : Int)) then (ck (okWp (etNode v6) y1 (etNode y2)) n (g (.h0 v0 v1 (w64 (v2 + (1 : Int))) v3 v4 v5 (withP (etNode v6) y1 (etNode y2))))) else g (.h0 v0 v1 (w64 (v2 + (1 : Int))) v3 v4 v5 v6)) else (cl (norm_Extends_m (etNode y2)) n fun y30 => bif (y30.2 != (0 : Int)) then k ((⟨(0 : Int), ([] : List UInt8), ([] : List (List UInt8)), ([] : List Node)⟩ : Node), y1, y30.2) else (bif ((y30.1).kind != (0 : Int)) then (ck (okWp (etNode v6) y1 (etNode (y30.1))) n (g (.h0 v0 v1 (w64 (v2 + (1 : Int))) v3 v4 v5 (withP (etNode v6) y1 (etNode (y30.1)))))) else g (.h0 v0 v1 (w64 (v2 + (1 : Int))) v3 v4 v5 v6)))) else (bif (y1 == ([104, 101, 97, 108, 116, 104, 99, 104, 101, 99, 107] : List UInt8)) then (bif (y2.kind == (0 : Int)) then (bif (y2.kind != (0 : Int)) then (ck (okWp (etNode v6) y1 (etNode y2)) n (g (.h0 v0 v1 (w64 (v2 + (1 : Int))) v3 v4 v5 (withP (etNode v6) y1 (etNode y2))))) else g (.h0 v0 v1 (w64 (v2 + (1 : Int))) v3 v4 v5 v6)) else (cl (norm_Health_m (etNode y2)) n fun y31 => bif (y31.2 != (0 : Int)) then k ((⟨(0 : Int), ([] : List UInt8), ([] : List (List UInt8)), ([] : List Node)⟩ : Node), y1, y31.2) else (bif ((y31.1).kind != (0 : Int)) then (ck (okWp (etNode v6) y1 (etNode (y31.1))) n (g (.h0 v0 v1 (w64 (v2 + (1 : Int))) v3 v4 v5 (withP (etNode v6) y1 (etNode (y31.1)))))) else g (.h0 v0 v1 (w64 (v2 + (1 : Int))) v3 v4 v5 v6)))) else (bif (y1 == ([114, 101, 115, 116, 97, 114, 116] : List UInt8)) then (bif (y2.kind == (0 : Int)) then (bif (y2.kind != (0 : Int)) then (ck (okWp (etNode v6) y1 (etNode y2)) n (g (.h0 v0 v1 (w64 (v2 + (1 : Int))) v3 v4 v5 (withP (etNode v6) y1 (etNode y2))))) else g (.h0 v0 v1 (w64 (v2 + (1 : Int))) v3 v4 v5 v6)) else (cl (norm_Restart_m (etNode y2)) n fun y32 => bif (y32.2 != (0 : Int)) then k ((⟨(0 : Int), ([] : List UInt8), ([] : List (List UInt8)), ([] : List Node)⟩ : Node), y1, y32.2) else (bif ((y32.1).kind != (0 : Int)) then (ck (okWp (etNode v6) y1 (etNode (y32.1))) n (g (.h0 v0 v1 (w64 (v2 + (1 : Int))) v3 v4 v5 (withP (etNode v6) y1 (etNode (y32.1)))))) else g (.h0 v0 v1 (w64 (v2 + (1 : Int))) v3 v4 v5 v6)))) else (bif (y1 == ([115, 99, 97, 108, 101] : List UInt8)) then (bif (y2.kind == (0 : Int)) then (bif (y2.kind != (0 : Int)) then (ck (okWp (etNode v6) y1 (etNode y2)) n (g (.h0 v0 v1 (w64 (v2 + (1 : Int))) v3 v4 v5 (withP (etNode v6) y1 (etNode y2))))) else g (.h0 v0 v1 (w64 (v2 + (1 : Int))) v3 v4 v5 v6)) else (cl (norm_Count_m (etNode y2)) n fun y33 => bif (y33.2 != (0 : Int)) then k ((⟨(0 : Int), ([] : List UInt8), ([] : List (List UInt8)), ([] : List Node)⟩ : Node), y1, y33.2) else (bif ((y33.1).kind != (0 : Int)) then (ck (okWp (etNode v6) y1 (etNode (y33.1))) n (g (.h0 v0 v1 (w64 (v2 + (1 : Int))) v3 v4 v5 (withP (etNode v6) y1 (etNode (y33.1)))))) else g (.h0 v0 v1 (w64 (v2 + (1 : Int))) v3 v4 v5 v6)))) else (bif (y1 == ([99, 112, 117, 115] : List UInt8)) then (bif (y2.kind == (0 : Int)) then (bif (y2.kind != (0 : Int)) then (ck (okWp (etNode v6) y1 (etNode y2)) n (g (.h0 v0 v1 (w64 (v2 + (1 : Int))) v3 v4 v5 (withP (etNode v6) y1 (etNode y2))))) else g (.h0 v0 v1 (w64 (v2 + (1 : Int))) v3 v4 v5 v6)) else (cl (norm_Cpus_m (etNode y2)) n fun y34 => bif (y34.2 != (0 : Int)) then k ((⟨(0 : Int), ([] : List UInt8), ([] : List (List UInt8)), ([] : List Node)⟩ : Node), y1, y34.2) else (bif ((y34.1).kind != (0 : Int)) then (ck (okWp (etNode v6) y1 (etNode (y34.1))) n (g (.h0 v0 v1 (w64 (v2 + (1 : Int))) v3 v4 v5 (withP (etNode v6) y1 (etNode (y34.1)))))) else g (.h0 v0 v1 (w64 (v2 + (1 : Int))) v3 v4 v5 v6)))) else (bif (y1 == ([109, 101, 109, 95, 108, 105, 109, 105, 116] : List UInt8)) then (bif (y2.kind == (0 : Int)) then (bif (y2.kind != (0 : Int)) then (ck (okWp (etNode v6) y1 (etNode y2)) n (g (.h0 v0 v1 (w64 (v2 + (1 : Int))) v3 v4 v5 (withP (etNode v6) y1 (etNode y2))))) else g (.h0 v0 v1 (w64 (v2 + (1 : Int))) v3 v4 v5 v6)) else (cl (norm_Bytes_m (etNode y2)) n fun y35 => bif (y35.2 != (0 : Int)) then k ((⟨(0 : Int), ([] : List UInt8), ([] : List (List UInt8)), ([] : List Node)⟩ : Node), y1, y35.2) else (bif ((y35.1).kind != (0 : Int)) then (ck (okWp (etNode v6) y1 (etNode (y35.1))) n (g (.h0 v0 v1 (w64 (v2 + (1 : Int))) v3 v4 v5 (withP (etNode v6) y1 (etNode (y35.1)))))) else g (.h0 v0 v1 (w64 (v2 + (1 : Int))) v3 v4 v5 v6)))) else k ((⟨(0 : Int), ([] : List UInt8), ([] : List (List UInt8)), ([] : List Node)⟩ : Node), y1, (10 : Int)))))))))) else (bif (y1 == ([112, 114, 111, 102, 105, 108, 101, 115] : List UInt8)) then (bif (y2.kind == (0 : Int)) then (bif (y2.kind != (0 : Int)) then (ck (okWp (etNode v6) y1 (etNode y2)) n (g (.h0 v0 v1 (w64 (v2 + (1 : Int))) v3 v4 v5 (withP (etNode v6) y1 (etNode y2))))) else g (.h0 v0 v1 (w64 (v2 + (1 : Int))) v3 v4 v5 v6)) else (cl (norm_Set_m (etNode y2)) n fun y36 => bif (y36.2 != (0 : Int)) then k ((⟨(0 : Int), ([] : List UInt8), ([] : List (List UInt8)), ([] : List Node)⟩ : Node), y1, y36.2) else (bif ((y36.1).kind != (0 : Int)) then (ck (okWp (etNode v6) y1 (etNode (y36.1))) n (g (.h0 v0 v1 (w64 (v2 + (1 : Int))) v3 v4 v5 (withP (etNode v6) y1 (etNode (y36.1)))))) else g (.h0 v0 v1 (w64 (v2 + (1 : Int))) v3 v4 v5 v6)))) else (bif (y1 == ([100, 101, 112, 101, 110, 100, 115, 95, 111, 110] : List UInt8)) then (bif (y2.kind == (0 : Int)) then (bif (y2.kind != (0 : Int)) then (ck (okWp (etNode v6) y1 (etNode y2)) n (g (.h0 v0 v1 (w64 (v2 + (1 : Int))) v3 v4 v5 (withP (etNode v6) y1 (etNode y2))))) else g (.h0 v0 v1 (w64 (v2 + (1 : Int))) v3 v4 v5 v6)) else (cl (norm_Deps_m (etNode y2)) n fun y37 => bif (y37.2 != (0 : Int)) then k ((⟨(0 : Int), ([] : List UInt8), ([] : List (List UInt8)), ([] : List Node)⟩ : Node), y1, y37.2) else (bif ((y37.1).kind != (0 : Int)) then (ck (okWp (etNode v6) y1 (etNode (y37.1))) n (g (.h0 v0 v1 (w64 (v2 + (1 : Int))) v3 v4 v5 (withP (etNode v6) y1 (etNode (y37.1)))))) else g (.h0 v0 v1 (w64 (v2 + (1 : Int))) v3 v4 v5 v6)))) else (bif (y1 == ([101, 120, 116, 101, 110, 100, 115] : List UInt8)) then (bif (y2.kind == (0 : Int)) then (bif (y2.kind != (0 : Int)) then (ck (okWp (etNode v6) y1 (etNode y2)) n (g (.h0 v0 v1 (w64 (v2 + (1 : Int))) v3 v4 v5 (withP (etNode v6) y1 (etNode y2))))) else g (.h0 v0 v1 (w64 (v2 + (1 : Int))) v3 v4 v5 v6)) else (cl (norm_Extends_m (etNode y2)) n fun y38 => bif (y38.2 != (0 : Int)) then k ((⟨(0 : Int), ([] : List UInt8), ([] : List (List UInt8)), ([] : List Node)⟩ : Node), y1, y38.2) else (bif ((y38.1).kind != (0 : Int)) then (ck (okWp (etNode v6) y1 (etNode (y38.1))) n (g (.h0 v0 v1 (w64 (v2 + (1 : Int))) v3 v4 v5 (withP (etNode v6) y1 (etNode (y38.1)))))) else g (.h0 v0 v1 (w64 (v2 + (1 : Int))) v3 v4 v5 v6)))) else (bif (y1 == ([104, 101, 97, 108, 116, 104, 99, 104, 101, 99, 107] : List UInt8)) then (bif (y2.kind == (0 : Int)) then (bif (y2.kind != (0 : Int)) then (ck (okWp (etNode v6) y1 (etNode y2)) n (g (.h0 v0 v1 (w64 (v2 + (1 : Int))) v3 v4 v5 (withP (etNode v6) y1 (etNode y2))))) else g (.h0 v0 v1 (w64 (v2 + (1 : Int))) v3 v4 v5 v6)) else (cl (norm_Health_m (etNode y2)) n fun y39 => bif (y39.2 != (0 : Int)) then k ((⟨(0 : Int), ([] : List UInt8), ([] : List (List UInt8)), ([] : List Node)⟩ : Node), y1, y39.2) else (bif ((y39.1).kind != (0 : Int)) then (ck (okWp (etNode v6) y1 (etNode (y39.1))) n (g (.h0 v0 v1 (w64 (v2 + (1 : Int))) v3 v4 v5 (withP (etNode v6) y1 (etNode (y39.1)))))) else g (.h0 v0 v1 (w64 (v2 + (1 : Int))) v3 v4 v5 v6)))) else (bif (y1 == ([114, 101, 115, 116, 97, 114, 116] : List UInt8)) then (bif (y2.kind == (0 : Int)) then (bif (y2.kind != (0 : Int)) then (ck (okWp (etNode v6) y1 (etNode y2)) n (g (.h0 v0 v1 (w64 (v2 + (1 : Int))) v3 v4 v5 (withP (etNode v6) y1 (etNode y2))))) else g (.h0 v0 v1 (w64 (v2 + (1 : Int))) v3 v4 v5 v6)) else (cl (norm_Restart_m (etNode y2)) n fun y40 => bif (y40.2 != (0 : Int)) then k ((⟨(0 : Int), ([] : List UInt8), ([] : List (List UInt8)), ([] : List Node)⟩ : Node), y1, y40.2) else (bif ((y40.1).kind != (0 : Int)) then (ck (okWp (etNode v6) y1 (etNode (y40.1))) n (g (.h0 v0 v1 (w64 (v2 + (1 : Int))) v3 v4 v5 (withP (etNode v6) y1 (etNode (y40.1)))))) else g (.h0 v0 v1 (w64 (v2 + (1 : Int))) v3 v4 v5 v6)))) else (bif (y1 == ([115, 99, 97, 108, 101] : List UInt8)) then (bif (y2.kind == (0 : Int)) then (bif (y2.kind != (0 : Int)) then (ck (okWp (etNode v6) y1 (etNode y2)) n (g (.h0 v0 v1 (w64 (v2 + (1 : Int))) v3 v4 v5 (withP (etNode v6) y1 (etNode y2))))) else g (.h0 v0 v1 (w64 (v2 + (1 : Int))) v3 v4 v5 v6)) else (cl (norm_Count_m (etNode y2)) n fun y41 => bif (y41.2 != (0 : Int)) then k ((⟨(0 : Int), ([] : List UInt8), ([] : List (List UInt8)), ([] : List Node)⟩ : Node), y1, y41.2) else (bif ((y41.1).kind != (0 : Int)) then (ck (okWp (etNode v6) y1 (etNode (y41.1))) n (g (.h0 v0 v1 (w64 (v2 + (1 : Int))) v3 v4 v5 (withP (etNode v6) y1 (etNode (y41.1)))))) else g (.h0 v0 v1 (w64 (v2 + (1 : Int))) v3 v4 v5 v6)))) else (bif (y1 == ([99, 112, 117, 115] : List UInt8)) then (bif (y2.kind == (0 : Int)) then (bif (y2.kind != (0 : Int)) then (ck (okWp (etNode v6) y1 (etNode y2)) n (g (.h0 v0 v1 (w64 (v2 + (1 : Int))) v3 v4 v5 (withP (etNode v6) y1 (etNode y2))))) else g (.h0 v0 v1 (w64 (v2 + (1 : Int))) v3 v4 v5 v6)) else (cl (norm_Cpus_m (etNode y2)) n fun y42 => bif (y42.2 != (0 : Int)) then k ((⟨(0 : Int), ([] : List UInt8), ([] : List (List UInt8)), ([] : List Node)⟩ : Node), y1, y42.2) else (bif ((y42.1).kind != (0 : Int)) then (ck (okWp (etNode v6) y1 (etNode (y42.1))) n (g (.h0 v0 v1 (w64 (v2 + (1 : Int))) v3 v4 v5 (withP (etNode v6) y1 (etNode (y42.1)))))) else g (.h0 v0 v1 (w64 (v2 + (1 : Int))) v3 v4 v5 v6)))) else (bif (y1 == ([109, 101, 109, 95, 108, 105, 109, 105, 116] : List UInt8)) then (bif (y2.kind == (0 : Int)) then (bif (y2.kind != (0 : Int)) then (ck (okWp (etNode v6) y1 (etNode y2)) n (g (.h0 v0 v1 (w64 (v2 + (1 : Int))) v3 v4 v5 (withP (etNode v6) y1 (etNode y2))))) else g (.h0 v0 v1 (w64 (v2 + (1 : Int))) v3 v4 v5 v6)) else (cl (norm_Bytes_m (etNode y2)) n fun y43 => bif (y43.2 != (0 : Int)) then k ((⟨(0 : Int), ([] : List UInt8), ([] : List (List UInt8)), ([] : List Node)⟩ : Node), y1, y43.2) else (bif ((y43.1).kind != (0 : Int)) then (ck (okWp (etNode v6) y1 (etNode (y43.1))) n (g (.h0 v0 v1 (w64 (v2 + (1 : Int))) v3 v4 v5 (withP (etNode v6) y1 (etNode (y43.1)))))) else g (.h0 v0 v1 (w64 (v2 + (1 : Int))) v3 v4 v5 v6)))) else k ((⟨(0 : Int), ([] : List UInt8), ([] : List (List UInt8)), ([] : List Node)⟩ : Node), y1, (10 : Int)))))))))))))))))) else (ck ((wg 10000 1000) (etNode v6)) n (k ((etNode ((sortP 1000) (etNode v6))), ([] : List UInt8), (0 : Int))))
def schema_each__schema_Service_1_O : Oracle E := withI (orac [(27, ndsorted_W 1000), (26, nwith_W), (41, norm_Bytes_W), (39, norm_Count_W), (40, norm_Cpus_W), (35, norm_Deps_W), (36, norm_Extends_W), (37, norm_Health_W), (29, norm_Line_W), (34, norm_Mounts_W), (32, norm_Pairs_W), (33, norm_Ports_W), (38, norm_Restart_W), (21, norm_Set_W), (30, norm_Words_W), (16, schema_foreign_W)]) [(15, Tryz.f15), (17, Tryz.f17), (31, Tryz.f31)]
theorem schema_each__schema_Service_1_hO : OracleOk E schema_each__schema_Service_1_O := withI_ok (orac_ok (.cons (ndsorted_ok 1000) (.cons nwith_ok (.cons norm_Bytes_ok (.cons norm_Count_ok (.cons norm_Cpus_ok (.cons norm_Deps_ok (.cons norm_Extends_ok (.cons norm_Health_ok (.cons norm_Line_ok (.cons norm_Mounts_ok (.cons norm_Pairs_ok (.cons norm_Ports_ok (.cons norm_Restart_ok (.cons norm_Set_ok (.cons norm_Words_ok (.cons schema_foreign_ok .nil)))))))))))))))) .nil .nil .nil) mix (.cons (f := 15) (fn := Tryz.f15) (by kernel_rfl) (by kernel_rfl) (by kernel_rfl) (.cons (f := 17) (fn := Tryz.f17) (by kernel_rfl) (by kernel_rfl) (by kernel_rfl) (.cons (f := 31) (fn := Tryz.f31) (by kernel_rfl) (by kernel_rfl) (by kernel_rfl) .nil)))
def schema_each__schema_Service_1_H : Hint E := { live := [(0, [1, 2, 4, 7, 23, 24, 25])], nils := [(0, [(7, some 2, false, .str), (7, some 3, false, .api_Node)])] }
def schema_each__schema_Service_1_C : schema_each__schema_Service_1_S → Hd E
  | .e x0 => .c [.v ⟨.api_Node, x0⟩, .c 15 [] []]
  | .h0 v0 v1 v2 v3 v4 v5 v6 => .h 0 ⟨57, [(1, .d (.raw (.func (.func 15) #[] #[]))), (2, .ptr 0 0), (4, .ptr 1 0), (7, .ptr 2 0), (23, .d (.slice .str v0)), (24, .d (.int .i64 v1)), (25, .d (.int .i64 v2))], [(0, .box [.d (.int .i64 v3.kind), .d (.str v3.text), .d (.slice .str v3.keys), .d (.slice .api_Node v3.kids)]), (1, .box [.d (.int .i64 v4), .d (.str v5), .d (.raw (.slice none 0 0)), .d (.raw (.slice none 0 0))]), (2, .box [.d (.int .i64 v6.kind), .d (.str v6.text), .d (.slice .str v6.keys), .d (.slice .api_Node v6.kids)])], 3⟩
theorem schema_each__schema_Service_1_N : NatT schema_each__schema_Service_1_t := fun τ k g n s => by cases s <;> simp only [schema_each__schema_Service_1_t, eA]
theorem schema_each__schema_Service_1_R : Runs (E := E) .fn schema_each__schema_Service_1_O Tryz.f14 schema_each__schema_Service_1_H schema_each__schema_Service_1_C (encA (E := E) [.api_Node, .str, .api_Errno]) schema_each__schema_Service_1_t := ⟨fun s G => by cases s <;> kernel_rfl, schema_each__schema_Service_1_N⟩
def schema_each__schema_Service_1_m (x0 : Node) : Option (Node × (List UInt8) × Int) := mu schema_each__schema_Service_1_t (.e x0)
def schema_each__schema_Service_1_A : FnP E := fnP (E := E) [.v .api_Node, .c 15 [] []] [.api_Node, .str, .api_Errno] fun a => schema_each__schema_Service_1_m a
theorem schema_each__schema_Service_1_aok : AOk E 14 schema_each__schema_Service_1_A := Runs.cl (E := E) (sh := [.v .api_Node, .c 15 [] []]) (rs := [.api_Node, .str, .api_Errno]) schema_each__schema_Service_1_R schema_each__schema_Service_1_hO mix ⟨Tryz.func14, by kernel_rfl, by kernel_rfl⟩ (st := fun a => .e a) (fun _ => rfl) fun _ r h => ⟨r, h, rfl⟩
inductive schema_Service_S where
  | e (x0 : Node)
def schema_Service_t : Tree (Node × (List UInt8) × Int) schema_Service_S := fun _ k _ n s => match s with
  | .e x0 => cl (schema_each__schema_Service_1_m (etNode x0)) n fun y1 => k ((etNode (y1.1)), y1.2.1, y1.2.2)
def schema_Service_O : Oracle E := withA (orac []) [(14, schema_each__schema_Service_1_A)]
theorem schema_Service_hO : OracleOk E schema_Service_O := withA_ok (orac_ok .nil .nil .nil .nil) (.cons schema_each__schema_Service_1_aok .nil)
def schema_Service_H : Hint E := {}
def schema_Service_C : schema_Service_S → Hd E
  | .e x0 => .e [⟨.api_Node, x0⟩]
theorem schema_Service_N : NatT schema_Service_t := fun τ k g n s => by cases s <;> simp only [schema_Service_t, eA]
theorem schema_Service_R : Runs (E := E) .fn schema_Service_O Tryz.f8 schema_Service_H schema_Service_C (encA (E := E) [.api_Node, .str, .api_Errno]) schema_Service_t := ⟨fun s G => by cases s <;> kernel_rfl, schema_Service_N⟩
def schema_Service_m (x0 : Node) : Option (Node × (List UInt8) × Int) := mu schema_Service_t (.e x0)
def schema_Service_W : FnW E := fnG (E := E) [.api_Node] [.api_Node, .str, .api_Errno] fun a => schema_Service_m a
theorem schema_Service_ok : FnOk E 8 schema_Service_W := Runs.fn (E := E) (ps := [.api_Node]) (rs := [.api_Node, .str, .api_Errno]) schema_Service_R schema_Service_hO mix ⟨Tryz.func8, by kernel_rfl, by kernel_rfl⟩ (st := fun a => .e a) (fun _ => rfl) fun _ r h => ⟨r, h, rfl⟩
inductive schema_each__schema_services_1_S where
  | e (x0 : Node)
  | h0 (v0 : List (List UInt8)) (v1 : Int) (v2 : Int) (v3 : Node) (v4 : Int) (v5 : List UInt8) (v6 : Node)
def schema_each__schema_services_1_t : Tree (Node × (List UInt8) × Int) schema_each__schema_services_1_S := fun _ k g n s => match s with
  | .e x0 => bif (x0.kind == (0 : Int)) then k ((⟨(3 : Int), ([] : List UInt8), ([] : List (List UInt8)), ([] : List Node)⟩ : Node), ([] : List UInt8), (0 : Int)) else (bif (x0.kind != (3 : Int)) then k ((⟨(0 : Int), ([] : List UInt8), ([] : List (List UInt8)), ([] : List Node)⟩ : Node), ([] : List UInt8), (10 : Int)) else g (.h0 x0.keys (x0.keys.length : Int) (0 : Int) x0 (0 : Int) ([] : List UInt8) (⟨(3 : Int), ([] : List UInt8), ([] : List (List UInt8)), ([] : List Node)⟩ : Node)))
  | .h0 v0 v1 v2 v3 v4 v5 v6 => bif (decide (v2 < v1)) then (ix v0 v2 n fun y1 => ix v3.kids v2 n fun y2 => cl (name_Service_m y1) n fun y3 => bif (!y3) then (cl (schema_path_m ([([115, 101, 114, 118, 105, 99, 101, 115] : List UInt8), y1] : List (List UInt8))) n fun y4 => k ((⟨(0 : Int), ([] : List UInt8), ([] : List (List UInt8)), ([] : List Node)⟩ : Node), y4, (10 : Int))) else (cl (schema_Service_m (etNode y2)) n fun y5 => cl (schema_path_m ([([115, 101, 114, 118, 105, 99, 101, 115] : List UInt8), y1, y5.2.1] : List (List UInt8))) n fun y6 => bif (y5.2.2 != (0 : Int)) then k ((⟨(0 : Int), ([] : List UInt8), ([] : List (List UInt8)), ([] : List Node)⟩ : Node), y6, y5.2.2) else (bif ((y5.1).kind != (0 : Int)) then (ck (okWp (etNode v6) y1 (etNode (y5.1))) n (g (.h0 v0 v1 (w64 (v2 + (1 : Int))) v3 v4 v5 (withP (etNode v6) y1 (etNode (y5.1)))))) else g (.h0 v0 v1 (w64 (v2 + (1 : Int))) v3 v4 v5 v6)))) else (ck ((wg 10000 1000) (etNode v6)) n (k ((etNode ((sortP 1000) (etNode v6))), ([] : List UInt8), (0 : Int))))
def schema_each__schema_services_1_O : Oracle E := withI (orac [(43, name_Service_W), (27, ndsorted_W 1000), (26, nwith_W), (8, schema_Service_W), (44, schema_path_W)]) [(42, Tryz.f42)]
theorem schema_each__schema_services_1_hO : OracleOk E schema_each__schema_services_1_O := withI_ok (orac_ok (.cons name_Service_ok (.cons (ndsorted_ok 1000) (.cons nwith_ok (.cons schema_Service_ok (.cons schema_path_ok .nil))))) .nil .nil .nil) mix (.cons (f := 42) (fn := Tryz.f42) (by kernel_rfl) (by kernel_rfl) (by kernel_rfl) .nil)
def schema_each__schema_services_1_H : Hint E := { live := [(0, [1, 2, 4, 7, 23, 24, 25])], nils := [(0, [(7, some 2, false, .str), (7, some 3, false, .api_Node)])] }
def schema_each__schema_services_1_C : schema_each__schema_services_1_S → Hd E
  | .e x0 => .c [.v ⟨.api_Node, x0⟩, .c 42 [] []]
  | .h0 v0 v1 v2 v3 v4 v5 v6 => .h 0 ⟨57, [(1, .d (.raw (.func (.func 42) #[] #[]))), (2, .ptr 0 0), (4, .ptr 1 0), (7, .ptr 2 0), (23, .d (.slice .str v0)), (24, .d (.int .i64 v1)), (25, .d (.int .i64 v2))], [(0, .box [.d (.int .i64 v3.kind), .d (.str v3.text), .d (.slice .str v3.keys), .d (.slice .api_Node v3.kids)]), (1, .box [.d (.int .i64 v4), .d (.str v5), .d (.raw (.slice none 0 0)), .d (.raw (.slice none 0 0))]), (2, .box [.d (.int .i64 v6.kind), .d (.str v6.text), .d (.slice .str v6.keys), .d (.slice .api_Node v6.kids)])], 3⟩
theorem schema_each__schema_services_1_N : NatT schema_each__schema_services_1_t := fun τ k g n s => by cases s <;> simp only [schema_each__schema_services_1_t, eA]
theorem schema_each__schema_services_1_R : Runs (E := E) .fn schema_each__schema_services_1_O Tryz.f14 schema_each__schema_services_1_H schema_each__schema_services_1_C (encA (E := E) [.api_Node, .str, .api_Errno]) schema_each__schema_services_1_t := ⟨fun s G => by cases s <;> kernel_rfl, schema_each__schema_services_1_N⟩
def schema_each__schema_services_1_m (x0 : Node) : Option (Node × (List UInt8) × Int) := mu schema_each__schema_services_1_t (.e x0)
def schema_each__schema_services_1_A : FnP E := fnP (E := E) [.v .api_Node, .c 42 [] []] [.api_Node, .str, .api_Errno] fun a => schema_each__schema_services_1_m a
theorem schema_each__schema_services_1_aok : AOk E 14 schema_each__schema_services_1_A := Runs.cl (E := E) (sh := [.v .api_Node, .c 42 [] []]) (rs := [.api_Node, .str, .api_Errno]) schema_each__schema_services_1_R schema_each__schema_services_1_hO mix ⟨Tryz.func14, by kernel_rfl, by kernel_rfl⟩ (st := fun a => .e a) (fun _ => rfl) fun _ r h => ⟨r, h, rfl⟩
inductive schema_services_S where
  | e (x0 : Node)
def schema_services_t : Tree (Node × (List UInt8) × Int) schema_services_S := fun _ k _ n s => match s with
  | .e x0 => bif (x0.kind != (3 : Int)) then k ((⟨(0 : Int), ([] : List UInt8), ([] : List (List UInt8)), ([] : List Node)⟩ : Node), ([115, 101, 114, 118, 105, 99, 101, 115] : List UInt8), (10 : Int)) else (cl (schema_each__schema_services_1_m (etNode x0)) n fun y1 => bif (bif (y1.2.2 == (0 : Int)) then (decide ((16 : Int) < (((y1.1).keys).length : Int))) else false) then k ((⟨(0 : Int), ([] : List UInt8), ([] : List (List UInt8)), ([] : List Node)⟩ : Node), ([115, 101, 114, 118, 105, 99, 101, 115] : List UInt8), (9 : Int)) else k ((etNode (y1.1)), y1.2.1, y1.2.2))
def schema_services_O : Oracle E := withA (orac []) [(14, schema_each__schema_services_1_A)]
theorem schema_services_hO : OracleOk E schema_services_O := withA_ok (orac_ok .nil .nil .nil .nil) (.cons schema_each__schema_services_1_aok .nil)
def schema_services_H : Hint E := {}
def schema_services_C : schema_services_S → Hd E
  | .e x0 => .e [⟨.api_Node, x0⟩]
theorem schema_services_N : NatT schema_services_t := fun τ k g n s => by cases s <;> simp only [schema_services_t, eA]
theorem schema_services_R : Runs (E := E) .fn schema_services_O Tryz.f19 schema_services_H schema_services_C (encA (E := E) [.api_Node, .str, .api_Errno]) schema_services_t := ⟨fun s G => by cases s <;> kernel_rfl, schema_services_N⟩
def schema_services_m (x0 : Node) : Option (Node × (List UInt8) × Int) := mu schema_services_t (.e x0)
def schema_services_W : FnW E := fnG (E := E) [.api_Node] [.api_Node, .str, .api_Errno] fun a => schema_services_m a
theorem schema_services_ok : FnOk E 19 schema_services_W := Runs.fn (E := E) (ps := [.api_Node]) (rs := [.api_Node, .str, .api_Errno]) schema_services_R schema_services_hO mix ⟨Tryz.func19, by kernel_rfl, by kernel_rfl⟩ (st := fun a => .e a) (fun _ => rfl) fun _ r h => ⟨r, h, rfl⟩
inductive schema_each__schema_File_1_S where
  | e (x0 : Node)
  | h0 (v0 : List (List UInt8)) (v1 : Int) (v2 : Int) (v3 : Node) (v4 : Int) (v5 : List UInt8) (v6 : Node)
def schema_each__schema_File_1_t : Tree (Node × (List UInt8) × Int) schema_each__schema_File_1_S := fun _ k g n s => match s with
  | .e x0 => bif (x0.kind == (0 : Int)) then k ((⟨(3 : Int), ([] : List UInt8), ([] : List (List UInt8)), ([] : List Node)⟩ : Node), ([] : List UInt8), (0 : Int)) else (bif (x0.kind != (3 : Int)) then k ((⟨(0 : Int), ([] : List UInt8), ([] : List (List UInt8)), ([] : List Node)⟩ : Node), ([] : List UInt8), (10 : Int)) else g (.h0 x0.keys (x0.keys.length : Int) (0 : Int) x0 (0 : Int) ([] : List UInt8) (⟨(3 : Int), ([] : List UInt8), ([] : List (List UInt8)), ([] : List Node)⟩ : Node)))
  | .h0 v0 v1 v2 v3 v4 v5 v6 => bif (decide (v2 < v1)) then (ix v0 v2 n fun y1 => ix v3.kids v2 n fun y2 => cl (schema_foreign_m y1) n fun y3 => bif y3 then g (.h0 v0 v1 (w64 (v2 + (1 : Int))) v3 v4 v5 v6) else (bif (bif (bif (bif (!(y1 == ([110, 97, 109, 101] : List UInt8))) then (!(y1 == ([115, 101, 114, 118, 105, 99, 101, 115] : List UInt8))) else false) then (!(y1 == ([110, 101, 116, 119, 111, 114, 107, 115] : List UInt8))) else false) then (!(y1 == ([118, 111, 108, 117, 109, 101, 115] : List UInt8))) else false) then k ((⟨(0 : Int), ([] : List UInt8), ([] : List (List UInt8)), ([] : List Node)⟩ : Node), y1, (10 : Int)) else (bif (y2.kind == (0 : Int)) then (bif (y2.kind != (0 : Int)) then (ck (okWp (etNode v6) y1 (etNode y2)) n (g (.h0 v0 v1 (w64 (v2 + (1 : Int))) v3 v4 v5 (withP (etNode v6) y1 (etNode y2))))) else g (.h0 v0 v1 (w64 (v2 + (1 : Int))) v3 v4 v5 v6)) else (bif (y1 == ([115, 101, 114, 118, 105, 99, 101, 115] : List UInt8)) then (cl (schema_services_m (etNode y2)) n fun y4 => bif (y4.2.2 != (0 : Int)) then k ((⟨(0 : Int), ([] : List UInt8), ([] : List (List UInt8)), ([] : List Node)⟩ : Node), y4.2.1, y4.2.2) else (bif ((y4.1).kind != (0 : Int)) then (ck (okWp (etNode v6) y1 (etNode (y4.1))) n (g (.h0 v0 v1 (w64 (v2 + (1 : Int))) v3 v4 v5 (withP (etNode v6) y1 (etNode (y4.1)))))) else g (.h0 v0 v1 (w64 (v2 + (1 : Int))) v3 v4 v5 v6))) else (bif (y1 == ([110, 97, 109, 101] : List UInt8)) then (ck (((name_Project_m (y2.text)).isSome) || !(!(y2.kind != (1 : Int)))) n (bif (bif (y2.kind != (1 : Int)) then true else (!(gv (name_Project_m (y2.text))))) then k ((⟨(0 : Int), ([] : List UInt8), ([] : List (List UInt8)), ([] : List Node)⟩ : Node), y1, (10 : Int)) else (bif (y2.kind != (0 : Int)) then (ck (okWp (etNode v6) y1 (etNode y2)) n (g (.h0 v0 v1 (w64 (v2 + (1 : Int))) v3 v4 v5 (withP (etNode v6) y1 (etNode y2))))) else g (.h0 v0 v1 (w64 (v2 + (1 : Int))) v3 v4 v5 v6)))) else (cl (norm_Set_m (etNode y2)) n fun y5 => bif (y5.2 != (0 : Int)) then k ((⟨(0 : Int), ([] : List UInt8), ([] : List (List UInt8)), ([] : List Node)⟩ : Node), y1, y5.2) else (bif ((y5.1).kind != (0 : Int)) then (ck (okWp (etNode v6) y1 (etNode (y5.1))) n (g (.h0 v0 v1 (w64 (v2 + (1 : Int))) v3 v4 v5 (withP (etNode v6) y1 (etNode (y5.1)))))) else g (.h0 v0 v1 (w64 (v2 + (1 : Int))) v3 v4 v5 v6)))))))) else (ck ((wg 10000 1000) (etNode v6)) n (k ((etNode ((sortP 1000) (etNode v6))), ([] : List UInt8), (0 : Int))))
def schema_each__schema_File_1_O : Oracle E := withI (orac [(20, name_Project_W), (27, ndsorted_W 1000), (26, nwith_W), (21, norm_Set_W), (16, schema_foreign_W), (19, schema_services_W)]) [(18, Tryz.f18)]
theorem schema_each__schema_File_1_hO : OracleOk E schema_each__schema_File_1_O := withI_ok (orac_ok (.cons name_Project_ok (.cons (ndsorted_ok 1000) (.cons nwith_ok (.cons norm_Set_ok (.cons schema_foreign_ok (.cons schema_services_ok .nil)))))) .nil .nil .nil) mix (.cons (f := 18) (fn := Tryz.f18) (by kernel_rfl) (by kernel_rfl) (by kernel_rfl) .nil)
def schema_each__schema_File_1_H : Hint E := { live := [(0, [1, 2, 4, 7, 23, 24, 25])], nils := [(0, [(7, some 2, false, .str), (7, some 3, false, .api_Node)])] }
def schema_each__schema_File_1_C : schema_each__schema_File_1_S → Hd E
  | .e x0 => .c [.v ⟨.api_Node, x0⟩, .c 18 [] []]
  | .h0 v0 v1 v2 v3 v4 v5 v6 => .h 0 ⟨57, [(1, .d (.raw (.func (.func 18) #[] #[]))), (2, .ptr 0 0), (4, .ptr 1 0), (7, .ptr 2 0), (23, .d (.slice .str v0)), (24, .d (.int .i64 v1)), (25, .d (.int .i64 v2))], [(0, .box [.d (.int .i64 v3.kind), .d (.str v3.text), .d (.slice .str v3.keys), .d (.slice .api_Node v3.kids)]), (1, .box [.d (.int .i64 v4), .d (.str v5), .d (.raw (.slice none 0 0)), .d (.raw (.slice none 0 0))]), (2, .box [.d (.int .i64 v6.kind), .d (.str v6.text), .d (.slice .str v6.keys), .d (.slice .api_Node v6.kids)])], 3⟩
theorem schema_each__schema_File_1_N : NatT schema_each__schema_File_1_t := fun τ k g n s => by cases s <;> simp only [schema_each__schema_File_1_t, eA]
theorem schema_each__schema_File_1_R : Runs (E := E) .fn schema_each__schema_File_1_O Tryz.f14 schema_each__schema_File_1_H schema_each__schema_File_1_C (encA (E := E) [.api_Node, .str, .api_Errno]) schema_each__schema_File_1_t := ⟨fun s G => by cases s <;> kernel_rfl, schema_each__schema_File_1_N⟩
def schema_each__schema_File_1_m (x0 : Node) : Option (Node × (List UInt8) × Int) := mu schema_each__schema_File_1_t (.e x0)
def schema_each__schema_File_1_A : FnP E := fnP (E := E) [.v .api_Node, .c 18 [] []] [.api_Node, .str, .api_Errno] fun a => schema_each__schema_File_1_m a
theorem schema_each__schema_File_1_aok : AOk E 14 schema_each__schema_File_1_A := Runs.cl (E := E) (sh := [.v .api_Node, .c 18 [] []]) (rs := [.api_Node, .str, .api_Errno]) schema_each__schema_File_1_R schema_each__schema_File_1_hO mix ⟨Tryz.func14, by kernel_rfl, by kernel_rfl⟩ (st := fun a => .e a) (fun _ => rfl) fun _ r h => ⟨r, h, rfl⟩
inductive schema_File_S where
  | e (x0 : Node)
def schema_File_t : Tree (Node × (List UInt8) × Int) schema_File_S := fun _ k _ n s => match s with
  | .e x0 => cl (schema_each__schema_File_1_m (etNode x0)) n fun y1 => ck (((node_Right_m (etNode (y1.1))).isSome) || !(y1.2.2 == (0 : Int))) n (bif (bif (y1.2.2 == (0 : Int)) then (!(gv (node_Right_m (etNode (y1.1))))) else false) then k ((⟨(0 : Int), ([] : List UInt8), ([] : List (List UInt8)), ([] : List Node)⟩ : Node), ([] : List UInt8), (9 : Int)) else k ((etNode (y1.1)), y1.2.1, y1.2.2))
def schema_File_O : Oracle E := withA (orac [(22, node_Right_W)]) [(14, schema_each__schema_File_1_A)]
theorem schema_File_hO : OracleOk E schema_File_O := withA_ok (orac_ok (.cons node_Right_ok .nil) .nil .nil .nil) (.cons schema_each__schema_File_1_aok .nil)
def schema_File_H : Hint E := {}
def schema_File_C : schema_File_S → Hd E
  | .e x0 => .e [⟨.api_Node, x0⟩]
theorem schema_File_N : NatT schema_File_t := fun τ k g n s => by cases s <;> simp only [schema_File_t, eA]
theorem schema_File_R : Runs (E := E) .fn schema_File_O Tryz.f9 schema_File_H schema_File_C (encA (E := E) [.api_Node, .str, .api_Errno]) schema_File_t := ⟨fun s G => by cases s <;> kernel_rfl, schema_File_N⟩
def schema_File_m (x0 : Node) : Option (Node × (List UInt8) × Int) := mu schema_File_t (.e x0)
def schema_File_W : FnW E := fnG (E := E) [.api_Node] [.api_Node, .str, .api_Errno] fun a => schema_File_m a
theorem schema_File_ok : FnOk E 9 schema_File_W := Runs.fn (E := E) (ps := [.api_Node]) (rs := [.api_Node, .str, .api_Errno]) schema_File_R schema_File_hO mix ⟨Tryz.func9, by kernel_rfl, by kernel_rfl⟩ (st := fun a => .e a) (fun _ => rfl) fun _ r h => ⟨r, h, rfl⟩
end
end Go.Proofs.YtiahkjjfhnfdiaaGreatDoor.Rf
namespace Go.Proofs.YtiahkjjfhnfdiaaGreatDoor.Rf
open Go Go.RowKit Go.Sort Go.Proofs.YtiahkjjfhnfdiaaGreatDoor.Mir
noncomputable section
abbrev Z {α : Type} [Df α] (o : Option α) (Q : α → Prop) : Prop := o.isSome = true ∧ Q (gv o)
theorem zof {α : Type} [Df α] {o : Option α} {Q : α → Prop} (h : ∃ r, o = some r ∧ Q r) : Z o Q := by
  obtain ⟨r, rfl, h⟩ := h
  exact ⟨rfl, h⟩
theorem come0 {ρ σ : Type} [Df ρ] {t : Tree ρ σ} {m : Option ρ} {s : σ} {Q : ρ → Prop} (hn : NatT t) (hm : m = mu t s) (h : t Prop Q (fun _ => False) False s) : Z m Q := zof (come1 hn Q hm h)
theorem comeZ {ρ σ : Type} [Df ρ] {t : Tree ρ σ} {m : Option ρ} {s : σ} {Q : ρ → Prop} (hn : NatT t) (hm : m = mu t s) (I : σ → Prop) (M : σ → Nat) (hs : I s) (hM : M s < 1000000000000000000000000000000) (h : ∀ s, I s → t Prop Q (fun s' => I s' ∧ M s' < M s) False s) : Z m Q := zof (come hn Q hm I M hs hM h)
theorem wZ {α : Type} [Df α] (o : Option α) (f : α → Prop) : cl o False f = (o.isSome = true ∧ f (gv o)) := by
  rw [wC]
  cases o with
  | none => simp
  | some r => simp [gv]
theorem w64e {n : Int} (h : -9223372036854775808 ≤ n ∧ n ≤ 9223372036854775807) : w64 n = n := w64_id h.1 h.2
theorem gM {α : Type} (l : List α) (d : α) {i : Int} (h : 0 ≤ i) (h' : i < (l.length : Int)) : l.getD i.toNat d ∈ l := by
  rw [List.getD, List.getElem?_eq_getElem (by omega)]
  exact List.getElem_mem _
theorem trA : (∀ (c : Bool) (a b : Prop), (bif c then a else b) = ((c = true → a) ∧ (c = false → b))) ∧ (∀ (α : Type) [Df α] (l : List α) (i : Int) (f : α → Prop), ix l i False f = (0 ≤ i ∧ i < (l.length : Int) ∧ f (l.getD i.toNat Df.d))) ∧ (∀ (l : List UInt8) (i : Int) (f : Int → Prop), ixb l i False f = (0 ≤ i ∧ i < (l.length : Int) ∧ f ((l.getD i.toNat 0).toNat : Int))) ∧
    (∀ (c : Bool) (a : Prop), ck c False a = (c = true ∧ a)) ∧ (∀ (α : Type) [Df α] (o : Option α) (f : α → Prop), cl o False f = (o.isSome = true ∧ f (gv o))) ∧ (∀ x : Node, etNode x = x) ∧ (∀ a b : Bool, ((a || b) = true) = (a = true ∨ b = true)) ∧ (∀ a b : Bool, ((a && b) = true) = (a = true ∧ b = true)) ∧ (∀ (p : Prop) [Decidable p], (decide p = true) = p) ∧
    (∀ a : Bool, ((!a) = true) = (a = false)) ∧ (∀ (p : Prop) [Decidable p], (decide p = false) = ¬p) ∧ (∀ (β : Type) (l : List β) (i : Int), inb l i = (decide ((0 : Int) ≤ i) && decide (i < (l.length : Int)))) ∧ (∀ (β : Type) (l : List β) (a b : Int), cutOk l a b = (decide ((0 : Int) ≤ a) && decide (a ≤ b) && decide (b ≤ (l.length : Int)))) ∧
    (∀ (α : Type) [BEq α] [LawfulBEq α] (a b : α), ((a == b) = true) = (a = b)) ∧ (∀ s p : List UInt8, okIx s p = (decide (s.length ≤ 1000000) && decide (p.length = 1))) ∧ (∀ (s p : List UInt8) (a b : Int), okSp s p a b = (decide (s.length ≤ 1000000) && decide (p.length = 1) && (a == 0) && (b == -1))) :=
  ⟨wB, fun _ _ => wI, wS, wK, fun _ _ => wZ, etNode_eq, fun _ _ => by simp, fun _ _ => by simp, fun _ _ => by simp, fun _ => by simp, fun _ _ => by simp, fun _ _ _ => rfl, fun _ _ _ _ => rfl, fun _ _ _ _ _ => by simp, fun _ _ => rfl, fun _ _ _ _ => rfl⟩
theorem internal_stringslite_HasPrefix_z (s p : List UInt8) : Z (internal_stringslite_HasPrefix_m s p) fun r => r = p.isPrefixOf s := by
  refine come0 internal_stringslite_HasPrefix_N rfl ?_
  simp only [trA, internal_stringslite_HasPrefix_t]
  refine ⟨by omega, ?_⟩
  rw [Bool.eq_iff_iff, List.isPrefixOf_iff_prefix]
  by_cases h : (p.length : Int) ≤ (s.length : Int)
  · simp only [h, decide_true, cond_true, cut, Int.toNat_natCast, Int.toNat_zero, Nat.sub_zero, List.drop_zero, beq_iff_eq]
    exact ⟨fun e => List.prefix_iff_eq_take.2 e.symm, fun e => (List.prefix_iff_eq_take.1 e).symm⟩
  · simp only [h, decide_false, cond_false]
    exact ⟨fun e => (by cases e), fun e => (by have := e.length_le; omega)⟩
theorem strings_HasPrefix_z (s p : List UInt8) : Z (strings_HasPrefix_m s p) fun r => r = p.isPrefixOf s := by
  refine come0 strings_HasPrefix_N rfl ?_
  simp only [trA, strings_HasPrefix_t]
  grind [internal_stringslite_HasPrefix_z]
theorem schema_foreign_z (s : List UInt8) : Z (schema_foreign_m s) fun r => r = [120, 45].isPrefixOf s := by
  refine come0 schema_foreign_N rfl ?_
  simp only [trA, schema_foreign_t]
  grind [strings_HasPrefix_z]
theorem name_small_z (c : Int) : Z (name_small_m c) fun _ => True := by
  refine come0 name_small_N rfl ?_
  simp only [trA, name_small_t]
theorem name_letter_z (c : Int) : Z (name_letter_m c) fun _ => True := by
  refine come0 name_letter_N rfl ?_
  simp only [trA, name_letter_t]
  grind [name_small_z]
theorem name_number_z (c : Int) : Z (name_number_m c) fun _ => True := by
  refine come0 name_number_N rfl ?_
  simp only [trA, name_number_t]
theorem name_Service_1_z (c : Int) : Z (name_Service_1_m c) fun _ => True := by
  refine come0 name_Service_1_N rfl ?_
  simp only [trA, name_Service_1_t]
  grind [name_letter_z, name_number_z]
theorem name_of__name_Service_1__name_Service_2_z (s : List UInt8) : Z (name_of__name_Service_1__name_Service_2_m s) fun r => r = true → 0 < s.length ∧ s.length ≤ 24 := by
  refine comeZ name_of__name_Service_1__name_Service_2_N rfl (fun | .e x => x = s | .h0 x i => x = s ∧ 0 < s.length ∧ s.length ≤ 24 ∧ 1 ≤ i ∧ i ≤ s.length) (fun | .e x => 100 | .h0 x i => (s.length - i).toNat) rfl (by show 100 < _; omega) ?_
  rintro (x | ⟨x, i⟩) hs
  · cases hs
    simp only [trA, name_of__name_Service_1__name_Service_2_t]
    grind [name_Service_1_z]
  · obtain ⟨rfl, h1, h2, h3, h4⟩ := hs
    simp only [trA, name_of__name_Service_1__name_Service_2_t]
    have := @w64e (i + 1)
    grind [name_letter_z, name_number_z]
end
end Go.Proofs.YtiahkjjfhnfdiaaGreatDoor.Rf
namespace Go.Proofs.YtiahkjjfhnfdiaaGreatDoor.Rf
open Go Go.RowKit Go.Sort Go.Proofs.YtiahkjjfhnfdiaaGreatDoor.Mir
noncomputable section
theorem name_Service_z (x0 : List UInt8) : Z (name_Service_m x0) fun _ => True := by
  refine come0 name_Service_N rfl ?_
  simp only [trA, name_Service_t]
  all_goals grind [name_of__name_Service_1__name_Service_2_z]
theorem name_Variable_1_z (x0 : Int) : Z (name_Variable_1_m x0) fun _ => True := by
  refine come0 name_Variable_1_N rfl ?_
  simp only [trA, name_Variable_1_t]
  all_goals grind [name_letter_z]
theorem name_of__name_Variable_1__name_Variable_2_z (x0 : List UInt8) : Z (name_of__name_Variable_1__name_Variable_2_m x0) fun _ => True := by
  refine comeZ name_of__name_Variable_1__name_Variable_2_N rfl (fun | .e y0 => y0 = x0 | .h0 v0 v1 => 0 ≤ v1 ∧ v1 ≤ (v0.length : Int) ∧ v0.length ≤ 1000000 ∧ v0 = x0) (fun | .e _ => 10000000000 | .h0 v0 v1 => ((v0.length : Int) - v1).toNat) rfl (by show 10000000000 < _; omega) ?_
  rintro (y0 | ⟨v0, v1⟩) hs
  · cases hs
    simp only [trA, name_of__name_Variable_1__name_Variable_2_t]
    all_goals grind [name_Variable_1_z, name_letter_z, name_number_z]
  · dsimp only at hs
    simp only [trA, name_of__name_Variable_1__name_Variable_2_t]
    have := @w64e (v1 + 1)
    all_goals grind [name_Variable_1_z, name_letter_z, name_number_z]
theorem name_Variable_z (x0 : List UInt8) : Z (name_Variable_m x0) fun _ => True := by
  refine come0 name_Variable_N rfl ?_
  simp only [trA, name_Variable_t]
  all_goals grind [name_of__name_Variable_1__name_Variable_2_z]
theorem name_Project_1_z (x0 : Int) : Z (name_Project_1_m x0) fun _ => True := by
  refine come0 name_Project_1_N rfl ?_
  simp only [trA, name_Project_1_t]
  all_goals grind [name_number_z, name_small_z]
theorem name_of__name_Project_1__name_Project_2_z (x0 : List UInt8) : Z (name_of__name_Project_1__name_Project_2_m x0) fun _ => True := by
  refine comeZ name_of__name_Project_1__name_Project_2_N rfl (fun | .e y0 => y0 = x0 | .h0 v0 v1 => 0 ≤ v1 ∧ v1 ≤ (v0.length : Int) ∧ v0.length ≤ 1000000 ∧ v0 = x0) (fun | .e _ => 10000000000 | .h0 v0 v1 => ((v0.length : Int) - v1).toNat) rfl (by show 10000000000 < _; omega) ?_
  rintro (y0 | ⟨v0, v1⟩) hs
  · cases hs
    simp only [trA, name_of__name_Project_1__name_Project_2_t]
    all_goals grind [name_Project_1_z, name_number_z, name_small_z]
  · dsimp only at hs
    simp only [trA, name_of__name_Project_1__name_Project_2_t]
    have := @w64e (v1 + 1)
    all_goals grind [name_Project_1_z, name_number_z, name_small_z]
theorem name_Project_z (x0 : List UInt8) : Z (name_Project_m x0) fun _ => True := by
  refine come0 name_Project_N rfl ?_
  simp only [trA, name_Project_t]
  all_goals grind [name_of__name_Project_1__name_Project_2_z]
theorem norm_none_z  : Z (norm_none_m ) fun _ => True := by
  refine come0 norm_none_N rfl ?_
  simp only [trA, norm_none_t]
  all_goals grind
theorem norm_Line_1_z (x0 : List UInt8) : Z (norm_Line_1_m x0) fun _ => True := by
  refine come0 norm_Line_1_N rfl ?_
  simp only [trA, norm_Line_1_t]
  all_goals grind
theorem norm_members_z (x0 : Node) (x1 : Int) : Z (norm_members_m x0 x1) fun r => r = true → x0.kind = x1 ∧ x0.kids.length ≤ 32 := by
  refine come0 norm_members_N rfl ?_
  simp only [trA, norm_members_t]
  all_goals grind
theorem word_blank_z (x0 : Int) : Z (word_blank_m x0) fun _ => True := by
  refine come0 word_blank_N rfl ?_
  simp only [trA, word_blank_t]
  all_goals grind
theorem digit_whole_z (x0 : List UInt8) (x1 : Int) (hp : x0.length ≤ 1000000) : Z (digit_whole_m x0 x1) fun _ => True := by
  refine comeZ digit_whole_N rfl (fun | .e y0 y1 => y0 = x0 ∧ y1 = x1 | .h0 v0 v1 v2 v3 v4 v5 => 0 ≤ v5 ∧ v5 ≤ v4 ∧ v4 = (v0.length : Int) ∧ v0.length ≤ 1000000 ∧ v0 = x0 ∧ v1 = x1 ∧ v4 = (x0.length : Int)) (fun | .e _ _ => 10000000000 | .h0 v0 v1 v2 v3 v4 v5 => (v4 - v5).toNat) ⟨rfl, rfl⟩ (by show 10000000000 < _; omega) ?_
  rintro (⟨y0, y1⟩ | ⟨v0, v1, v2, v3, v4, v5⟩) hs
  · obtain ⟨rfl, rfl⟩ := hs
    simp only [trA, digit_whole_t]
    all_goals grind
  · dsimp only at hs
    simp only [trA, digit_whole_t]
    have := @w64e (v5 + 1)
    all_goals grind
theorem digit_Count_z (x0 : List UInt8) (x1 : Int) (hp : x0.length ≤ 1000000) : Z (digit_Count_m x0 x1) fun _ => True := by
  refine come0 digit_Count_N rfl ?_
  simp only [trA, digit_Count_t]
  all_goals grind [digit_whole_z]
theorem mount_path_z (x0 : List UInt8) (hp : x0.length ≤ 1000000) : Z (mount_path_m x0) fun r => r = true → 0 < x0.length := by
  refine comeZ mount_path_N rfl (fun | .e y0 => y0 = x0 | .h0 v0 v1 v2 => 0 ≤ v2 ∧ v2 ≤ v1 ∧ v1 = (v0.length : Int) ∧ v0.length ≤ 1000000 ∧ v0 = x0 ∧ v1 = (x0.length : Int)) (fun | .e _ => 10000000000 | .h0 v0 v1 v2 => (v1 - v2).toNat) rfl (by show 10000000000 < _; omega) ?_
  rintro (y0 | ⟨v0, v1, v2⟩) hs
  · cases hs
    simp only [trA, mount_path_t]
    all_goals grind
  · dsimp only at hs
    simp only [trA, mount_path_t]
    have := @w64e (v2 + 1)
    all_goals grind
theorem mount_volume_z (x0 : List UInt8) : Z (mount_volume_m x0) fun _ => True := by
  refine come0 mount_volume_N rfl ?_
  simp only [trA, mount_volume_t]
  all_goals grind [name_Service_z]
theorem slices_IndexFunc_string_string__port_address_1_z (x0 : List (List UInt8)) (hp : x0.length ≤ 1000000 ∧ ∀ s ∈ x0, s.length ≤ 1000000) : Z (slices_IndexFunc_string_string__port_address_1_m x0) fun _ => True := by
  refine comeZ slices_IndexFunc_string_string__port_address_1_N rfl (fun | .e y0 => y0 = x0 | .h0 v0 v1 v2 => 0 ≤ v2 ∧ v2 ≤ v1 ∧ v1 = (v0.length : Int) ∧ v0.length ≤ 1000000 ∧ v0 = x0 ∧ v1 = (x0.length : Int)) (fun | .e _ => 10000000000 | .h0 v0 v1 v2 => (v1 - v2).toNat) rfl (by show 10000000000 < _; omega) ?_
  rintro (y0 | ⟨v0, v1, v2⟩) hs
  · cases hs
    simp only [trA, slices_IndexFunc_string_string__port_address_1_t]
    all_goals grind [gM, digit_Count_z]
  · dsimp only at hs
    simp only [trA, slices_IndexFunc_string_string__port_address_1_t]
    have := @w64e (v2 + 1)
    all_goals grind [gM, digit_Count_z]
theorem slices_ContainsFunc_string_string__port_address_1_z (x0 : List (List UInt8)) (hp : x0.length ≤ 1000000 ∧ ∀ s ∈ x0, s.length ≤ 1000000) : Z (slices_ContainsFunc_string_string__port_address_1_m x0) fun _ => True := by
  refine come0 slices_ContainsFunc_string_string__port_address_1_N rfl ?_
  simp only [trA, slices_ContainsFunc_string_string__port_address_1_t]
  all_goals grind [slices_IndexFunc_string_string__port_address_1_z]
end
end Go.Proofs.YtiahkjjfhnfdiaaGreatDoor.Rf
namespace Go.Proofs.YtiahkjjfhnfdiaaGreatDoor.Rf
open Go Go.RowKit Go.Sort Go.Proofs.YtiahkjjfhnfdiaaGreatDoor.Mir
noncomputable section
theorem gM0 {α : Type} (l : List α) (d : α) (h : 0 < l.length) : l.getD 0 d ∈ l := by
  rw [List.getD, List.getElem?_eq_getElem h]
  exact List.getElem_mem _
theorem gM1 {α : Type} (l : List α) (d : α) (h : 1 < l.length) : l.getD 1 d ∈ l := by
  rw [List.getD, List.getElem?_eq_getElem h]
  exact List.getElem_mem _
theorem splitK_mem (sep : List UInt8) : ∀ (k : Nat) (s p : List UInt8), p ∈ Lib.splitK sep 0 k s → p.length ≤ s.length
  | 0, s, p, h => by
    simp only [Lib.splitK, List.mem_singleton] at h
    rw [h]; exact Nat.le_refl _
  | k + 1, s, p, h => by
    unfold Lib.splitK at h
    split at h
    · rw [List.mem_singleton] at h; rw [h]; exact Nat.le_refl _
    · rcases List.mem_cons.1 h with h | h
      · rw [h, List.length_take]; omega
      · have := splitK_mem sep k _ p h
        rw [List.length_drop] at this
        omega
theorem splitK_len (sep : List UInt8) : ∀ (k : Nat) (s : List UInt8), 0 < (Lib.splitK sep 0 k s).length ∧ (Lib.splitK sep 0 k s).length ≤ k + 1
  | 0, s => by simp [Lib.splitK]
  | k + 1, s => by
    unfold Lib.splitK
    split
    · simp
    · have := splitK_len sep k (s.drop ((Lib.index s sep).toNat + sep.length))
      simp only [List.length_cons]; omega
theorem spP_z (s p : List UInt8) (a b : Int) (h : p.length = 1) : 0 < (spP s p a b).length ∧ (spP s p a b).length ≤ s.length + 1 ∧ ∀ x ∈ spP s p a b, x.length ≤ s.length := by
  match p, h with
  | [c], _ =>
  refine ⟨(splitK_len [c] _ s).1, ?_, fun x hx => splitK_mem [c] _ s x hx⟩
  have h1 := (splitK_len [c] (Lib.count s [c]) s).2
  rw [Lib.count_one] at h1
  have h2 := List.count_le_length (a := c) (l := s)
  have h3 : (spP s [c] a b).length ≤ s.count c + 1 := by
    unfold spP Lib.split
    rw [Lib.count_one]
    exact h1
  omega
theorem spP_c (s : List UInt8) (c : UInt8) (a b : Int) : 0 < (spP s [c] a b).length ∧ (spP s [c] a b).length ≤ s.length + 1 ∧ ∀ x ∈ spP s [c] a b, x.length ≤ s.length := spP_z s [c] a b rfl
theorem spP_d (s : List UInt8) (c : UInt8) (a b : Int) (i : Nat) : ((spP s [c] a b).getD i (Df.d : List UInt8)).length ≤ s.length := by
  rw [List.getD]
  cases h : (spP s [c] a b)[i]? with
  | none => exact Nat.zero_le _
  | some x => exact (spP_c s c a b).2.2 x (List.mem_of_getElem? h)
theorem spP_f (s : List UInt8) (c : UInt8) (a b : Int) (i : Nat) : ((spP s [c] a b).getD i (dflt Ty.str : List UInt8)).length ≤ s.length := spP_d s c a b i
theorem cutA_z (s p : List UInt8) : (cutA s p).length ≤ s.length := by
  unfold cutA
  cases decide (0 ≤ ixV s p) with
  | true => simp only [cond_true, List.length_take]; omega
  | false => exact Nat.le_refl _
theorem cutB_z (s p : List UInt8) : (cutB s p).length ≤ s.length := by
  unfold cutB
  cases decide (0 ≤ ixV s p) with
  | true => simp only [cond_true, List.length_drop]; omega
  | false => exact Nat.zero_le _
theorem port_address_z (x0 : List UInt8) (hp : x0.length ≤ 1000000) : Z (port_address_m x0) fun _ => True := by
  refine come0 port_address_N rfl ?_
  simp only [trA, port_address_t]
  all_goals grind [w64e, gM0, gM1, gM, spP_c, spP_d, spP_f, cutA_z, cutB_z, slices_ContainsFunc_string_string__port_address_1_z]
theorem port_Right_z (x0 : Port) (hp : x0.host.length ≤ 1000000) : Z (port_Right_m x0) fun r => r = true → (1 ≤ x0.in_ ∧ x0.in_ ≤ 65535) ∧ 0 ≤ x0.out ∧ x0.out ≤ 65535 := by
  refine come0 port_Right_N rfl ?_
  simp only [trA, port_Right_t]
  all_goals grind [w64e, gM0, gM1, gM, spP_c, spP_d, spP_f, cutA_z, cutB_z, port_address_z]
theorem port_number_z (x0 : List UInt8) (hp : x0.length ≤ 1000000) : Z (port_number_m x0) fun _ => True := by
  refine come0 port_number_N rfl ?_
  simp only [trA, port_number_t]
  all_goals grind [w64e, gM0, gM1, gM, spP_c, spP_d, spP_f, cutA_z, cutB_z, digit_Count_z]
theorem port_Parse_z (x0 : List UInt8) (hp : x0.length ≤ 1000000) : Z (port_Parse_m x0) fun r => r.1.host.length ≤ x0.length := by
  refine come0 port_Parse_N rfl ?_
  simp only [trA, port_Parse_t]
  (repeat' (first | (intro _) | (apply And.intro))) <;> grind [w64e, gM0, gM1, gM, spP_c, spP_d, spP_f, cutA_z, cutB_z, port_Right_z, port_number_z]
end
end Go.Proofs.YtiahkjjfhnfdiaaGreatDoor.Rf
namespace Go.Proofs.YtiahkjjfhnfdiaaGreatDoor.Rf
open Go Go.RowKit Go.Sort Go.Proofs.YtiahkjjfhnfdiaaGreatDoor.Mir
noncomputable section
theorem p10 (v0 : Int) (h : 2 ≤ v0) : (10 : Int) ^ (v0 - 1).toNat = 10 * (10 : Int) ^ (v0 - 2).toNat := by
  rw [show (v0 - 1).toNat = (v0 - 2).toNat + 1 by omega, Int.pow_succ]; omega
theorem p10_1 : ∀ n : Nat, (2 : Int) ≤ (10 : Int) ^ n → 1 ≤ n
  | 0, h => by simp at h
  | n + 1, _ => by omega
theorem u64_id {n : Int} (h0 : 0 ≤ n) (h1 : n < 18446744073709551616) : IntKind.wrap .u64 n = n := by
  show n % 18446744073709551616 = n
  exact Int.emod_eq_of_lt h0 h1
theorem digit_Text_z (x0 : Int) (hp : -9223372036854775808 ≤ x0 ∧ x0 ≤ 9223372036854775807) : Z (digit_Text_m x0) fun r => r.length ≤ 20 := by
  refine comeZ digit_Text_N rfl (fun | .e y0 => y0 = x0 | .h0 v0 v1 v2 v3 => 2 ≤ v0 ∧ v0 ≤ 20 ∧ 0 ≤ v2 ∧ v2 < 18446744073709551616 ∧ v2 < (10 : Int) ^ (v0 - 1).toNat ∧ v3.length = 20) (fun | .e _ => 10000000000 | .h0 v0 v1 v2 v3 => v0.toNat) rfl (by show 10000000000 < _; omega) ?_
  rintro (y0 | ⟨v0, v1, v2, v3⟩) hs
  · cases hs
    simp only [trA, digit_Text_t]
    have e1 : 0 ≤ x0 → IntKind.wrap .u64 x0 = x0 := fun h => u64_id h (by omega)
    have e2 : x0 < 0 → IntKind.wrap .u64 (0 - IntKind.wrap .u64 x0) = -x0 := fun h => by
      show (0 - x0 % 18446744073709551616) % 18446744073709551616 = -x0
      omega
    refine ⟨fun h => ?_, fun h => ?_⟩
    · rw [e2 h]
      refine ⟨⟨by omega, by omega, by omega, by omega, ?_, rfl⟩, by show (20 : Int).toNat < 10000000000; decide⟩
      rw [show ((20 : Int) - 1).toNat = 19 from rfl]
      omega
    · rw [e1 (by omega)]
      refine ⟨⟨by omega, by omega, by omega, by omega, ?_, rfl⟩, by show (20 : Int).toNat < 10000000000; decide⟩
      rw [show ((20 : Int) - 1).toNat = 19 from rfl]
      omega
  · obtain ⟨h1, h2, h3, h4, h5, h6⟩ := hs
    have e1 : w64 (v0 - 1) = v0 - 1 := w64_id (by omega) (by omega)
    have e2 : w64 (v0 - 2) = v0 - 2 := w64_id (by omega) (by omega)
    have e3 : Int.tdiv v2 10 = v2 / 10 := Int.tdiv_eq_ediv_of_nonneg h3
    have e4 : IntKind.wrap .u64 (v2 / 10) = v2 / 10 := u64_id (by omega) (by omega)
    have e5 := p10 v0 h1
    have e6 := p10_1 (v0 - 2).toNat
    simp only [trA, digit_Text_t, e1, e2, e3, e4, arI_eq, show v0 - 1 - 1 = v0 - 2 by omega, List.length_set, h6, List.length_map, cut, List.length_take, List.length_drop, Nat.blt_eq, Nat.beq_eq]
    generalize (10 : Int) ^ (v0 - 2).toNat = q at e5 e6 ⊢
    rw [e5] at h5
    (repeat' (first | (intro _) | (apply And.intro))) <;> first | omega | trivial | rfl | (rename_i hz; have hz := beq_eq_false_iff_ne.1 hz; have := e6 (by omega); omega)
theorem port_Text_z (x0 : Port) (hp : x0.host.length ≤ 1000000) : Z (port_Text_m x0) fun r => r.length ≤ x0.host.length + 100 := by
  refine come0 port_Text_N rfl ?_
  simp only [trA, port_Text_t, List.length_append, List.length_cons, List.length_nil, maxStr]
  have h1 := port_Right_z x0 hp
  have h2 := digit_Text_z x0.out
  have h3 := digit_Text_z x0.in_
  (repeat' (first | (intro _) | (apply And.intro))) <;> grind
end
end Go.Proofs.YtiahkjjfhnfdiaaGreatDoor.Rf
namespace Go.Proofs.YtiahkjjfhnfdiaaGreatDoor.Rf
open Go Go.RowKit Go.Sort Go.Proofs.YtiahkjjfhnfdiaaGreatDoor.Mir
noncomputable section
def wr : Nat → Node → Prop
  | 0, _ => False
  | n + 1, x => x.keys.length ≤ 200 ∧ x.kids.length ≤ 200 ∧ (x.kind = 0 ∨ x.kind = 3 → x.keys.length = x.kids.length) ∧ x.text.length ≤ 200 ∧ (∀ k ∈ x.keys, k.length ≤ 200) ∧ ∀ y ∈ x.kids, wr n y
theorem wr_wf : ∀ {d : Nat} {x : Node}, wr d x → wf 200 d x = true
  | 0, _, h => h.elim
  | _ + 1, _, h => wf_iff.2 ⟨h.1, h.2.1, fun e => h.2.2.1 (.inr e), h.2.2.2.1, h.2.2.2.2.1, fun y hy => wr_wf (h.2.2.2.2.2 y hy)⟩
theorem wr_deep : ∀ {n : Nat} {x : Node} (k : Nat), wr n x → wr (n + k) x
  | 0, _, _, h => h.elim
  | n + 1, x, k, h => by
    rw [Nat.add_right_comm]
    exact ⟨h.1, h.2.1, h.2.2.1, h.2.2.2.1, h.2.2.2.2.1, fun y hy => wr_deep k (h.2.2.2.2.2 y hy)⟩
def W (d : Nat) (n : Node) : Prop := wr d n
def G (d : Nat) (n : Node) : Prop := wg 1000 d n = true
def TL (l : List (List UInt8)) : Prop := ∀ s ∈ l, s.length ≤ 200
theorem TL_nil : TL [] := fun s h => by cases h
theorem TL_app {l : List (List UInt8)} {s : List UInt8} (h : TL l) (hs : s.length ≤ 200) : TL (l ++ [s]) := fun x hx => by
  rcases List.mem_append.1 hx with hx | hx
  · exact h x hx
  · rw [List.mem_singleton.1 hx]; exact hs
theorem TL_d {l : List (List UInt8)} (h : TL l) (i : Nat) : (l.getD i (Df.d : List UInt8)).length ≤ 200 := by
  rw [List.getD]
  cases e : l[i]? with
  | none => exact Nat.zero_le _
  | some x => exact h x (List.mem_of_getElem? e)
theorem TL_f {l : List (List UInt8)} (h : TL l) (i : Nat) : (l.getD i (dflt Ty.str : List UInt8)).length ≤ 200 := TL_d h i
theorem W_z {d : Nat} {n : Node} (h : W (d + 1) n) : n.keys.length ≤ 200 ∧ n.kids.length ≤ 200 ∧ (n.kind = 3 → n.keys.length = n.kids.length) ∧ n.text.length ≤ 200 ∧ TL n.keys := by
  exact ⟨h.1, h.2.1, fun e => h.2.2.1 (.inr e), h.2.2.2.1, h.2.2.2.2.1⟩
theorem W_k {d : Nat} {n : Node} (h : W (d + 1) n) (h0 : n.kind = 0) : W (d + 1) ⟨3, n.text, n.keys, n.kids⟩ := ⟨h.1, h.2.1, fun _ => h.2.2.1 (.inl h0), h.2.2.2.1, h.2.2.2.2.1, h.2.2.2.2.2⟩
theorem W_d {d : Nat} {n : Node} (h : W (d + 2) n) (i : Nat) : W (d + 1) (n.kids.getD i (Df.d : Node)) := by
  rw [List.getD]
  cases e : n.kids[i]? with
  | none => exact ⟨Nat.zero_le _, Nat.zero_le _, (fun _ => rfl), Nat.zero_le _, (fun k hk => by cases hk), (fun y hy => by cases hy)⟩
  | some x => exact h.2.2.2.2.2 x (List.mem_of_getElem? e)
theorem W_get {d : Nat} {n : Node} (h : W (d + 2) n) (k : List UInt8) (hk : getB n k = true) : W (d + 1) (getV n k) := h.2.2.2.2.2 _ (getV_mem hk)
theorem W_fit {d : Nat} {n : Node} (h : W (d + 1) n) : fit n = true := wf_fit (wr_wf h) (by omega)
theorem W_G {d : Nat} {n : Node} (h : W d n) : G d n := wg_up (by omega) (wf_wg (wr_wf h))
theorem G_up {d : Nat} {n : Node} (k : Nat) (h : G d n) : G (d + k) n := wg_deep k h
def Fm (n : Node) : Prop := (n.kind = 0 ∨ n.kind = 3) ∧ n.keys.length = n.kids.length ∧ ∀ y ∈ n.kids, G 500 y
theorem Fm_nil : Fm ⟨0, [], [], []⟩ := ⟨.inl rfl, rfl, fun y h => by cases h⟩
theorem Fm_fit {n : Node} (h : Fm n) (hl : n.kids.length ≤ 1000) : fit n = true := by
  refine fit_iff.2 ⟨⟨by have := h.2.1; omega, by omega⟩, fun _ => h.2.1⟩
theorem Fm_okWp {n : Node} {k : List UInt8} {v : Node} (h : Fm n) (hl : n.kids.length ≤ 1000) : okWp n k v = true := by
  refine fit_iff.2 ⟨⟨by have := h.2.1; show n.keys.length ≤ _; omega, by show n.kids.length ≤ _; omega⟩, fun _ => h.2.1⟩
theorem mem_set {l : List Node} {i : Nat} {v y : Node} (h : y ∈ l.set i v) : y ∈ l ∨ y = v := List.mem_or_eq_of_mem_set h
theorem Fm_with {n : Node} {k : List UInt8} {v : Node} (h : Fm n) (hv : G 500 v) : Fm (withP n k v) ∧ (withP n k v).kids.length ≤ n.kids.length + 1 ∧ (withP n k v).kind = 3 := by
  obtain ⟨h1, h2, h3⟩ := h
  unfold withP
  rw [show (bif n.kind != 3 then n.kind != 0 else false) = false by rcases h1 with h1 | h1 <;> rw [h1] <;> rfl, cond_false]
  cases decide (0 ≤ index n.keys k) with
  | true =>
    rw [cond_true]
    refine ⟨⟨.inr rfl, by simp [h2], fun y hy => ?_⟩, by simp, rfl⟩
    rcases mem_set hy with hy | rfl
    · exact h3 y hy
    · exact hv
  | false =>
    rw [cond_false]
    refine ⟨⟨.inr rfl, by simp [h2], fun y hy => ?_⟩, by simp, rfl⟩
    rcases List.mem_append.1 hy with hy | hy
    · exact h3 y hy
    · rw [List.mem_singleton.1 hy]; exact hv
theorem Fm_G {n : Node} (h : Fm n) (hl : n.kids.length ≤ 1000) : G 501 ⟨3, n.text, n.keys, n.kids⟩ := wg_iff.2 ⟨by have := h.2.1; show n.keys.length ≤ _; omega, hl, fun _ => h.2.1, h.2.2⟩
theorem G_sort : ∀ (m d : Nat) (x : Node), G d x → G d (sortP m x)
  | 0, _, _, h => h
  | m + 1, 0, _, h => by cases h
  | m + 1, d + 1, x, h => by
    have hx := wg_iff.1 h
    unfold sortP
    cases (x.kids.length : Int) == 0 with
    | true => exact h
    | false =>
      rw [cond_false]
      cases hk : x.kind != 3 with
      | true =>
        rw [cond_true]
        refine wg_iff.2 ⟨Nat.zero_le _, by simpa using hx.2.1, fun e => by simp [show x.kind = 3 from e] at hk, fun y hy => ?_⟩
        obtain ⟨z, hz, rfl⟩ := List.mem_map.1 hy
        exact G_sort m d z (hx.2.2.2 z hz)
      | false =>
        rw [cond_false]
        have hl := Pl.sortD_len x.keys
        refine wg_iff.2 ⟨by show (Pl.sortD x.keys).length ≤ _; omega, by show ((Pl.sortD x.keys).map _).length ≤ _; rw [List.length_map]; omega, fun _ => by simp, fun y hy => ?_⟩
        obtain ⟨k, hk', rfl⟩ := List.mem_map.1 hy
        have h3 : x.kind = 3 := by simpa using hk
        exact G_sort m d _ (wg_get h (getB_g h h3 (Pl.sortD_mem.1 hk')))
theorem wg10 {x : Node} (h : G 600 x) : wg 10000 1000 x = true := wg_deep (n := 600) 400 (wg_up (by omega) h)
theorem G_zn (d : Nat) : G (d + 1) ⟨0, [], [], []⟩ := wg_iff.2 ⟨Nat.zero_le _, Nat.zero_le _, (fun h => by cases h), (fun y hy => by cases hy)⟩
theorem G_txt (d : Nat) (k : Int) (s : List UInt8) (h : k ≠ 3) : G (d + 1) ⟨k, s, [], []⟩ := wg_iff.2 ⟨Nat.zero_le _, Nat.zero_le _, (fun e => absurd e h), (fun y hy => by cases hy)⟩
theorem G_z5 : G 500 ⟨0, [], [], []⟩ := G_zn 499
theorem G_z6 : G 501 ⟨0, [], [], []⟩ := G_zn 500
theorem G_t5 (s : List UInt8) : G 500 (txt1 s) := G_txt 499 1 s (by decide)
theorem G_t6 (s : List UInt8) : G 501 (txt1 s) := G_txt 500 1 s (by decide)
def W2 (n : Node) : Prop := W 492 n
def W1 (n : Node) : Prop := W 491 n
def W0 (n : Node) : Prop := W 490 n
theorem W2_z {n : Node} (h : W2 n) : n.keys.length ≤ 200 ∧ n.kids.length ≤ 200 ∧ (n.kind = 3 → n.keys.length = n.kids.length) ∧ n.text.length ≤ 200 ∧ TL n.keys := W_z (d := 491) h
theorem W1_z {n : Node} (h : W1 n) : n.keys.length ≤ 200 ∧ n.kids.length ≤ 200 ∧ (n.kind = 3 → n.keys.length = n.kids.length) ∧ n.text.length ≤ 200 ∧ TL n.keys := W_z (d := 490) h
theorem W2_d {n : Node} (h : W2 n) (i : Nat) : W1 (n.kids.getD i (Df.d : Node)) := W_d (d := 490) h i
theorem W2_f {n : Node} (h : W2 n) (i : Nat) : W1 (n.kids.getD i (dflt Ty.api_Node : Node)) := W_d (d := 490) h i
theorem W2_g {n : Node} (h : W2 n) (k : List UInt8) (hk : getB n k = true) : W1 (getV n k) := W_get (d := 490) h k hk
theorem W2_G {n : Node} (h : W2 n) : G 501 n := wg_deep (n := 492) 9 (W_G h)
theorem W2_1 {n : Node} (h : W1 n) : W2 n := wr_deep (n := 491) 1 h
theorem W2_k {n : Node} (h : W2 n) (h0 : n.kind = 0) : W2 ⟨3, n.text, n.keys, n.kids⟩ := W_k (d := 491) h h0
theorem W2_fit {n : Node} (h : W2 n) : fit n = true := W_fit (d := 491) h
theorem W1_G {n : Node} (h : W1 n) : G 500 n := wg_deep (n := 491) 9 (W_G h)
theorem norm_none_y : Z norm_none_m fun r => r.1 = ⟨0, [], [], []⟩ := by
  refine come0 norm_none_N rfl ?_
  simp only [trA, norm_none_t]
theorem norm_form_fail_z (f : form) (b : Bool) : Z (norm_form_fail_m f b) fun r => r.1.n = f.n := by
  refine come0 norm_form_fail_N rfl ?_
  simp only [trA, norm_form_fail_t]
theorem norm_form_put_z (f : form) (k : List UInt8) (v : Node) (h : Fm f.n ∧ f.n.kids.length ≤ 900 ∧ G 500 v) : Z (norm_form_put_m f k v) fun r => Fm r.1.n ∧ r.1.n.kids.length ≤ f.n.kids.length + 1 := by
  refine come0 norm_form_put_N rfl ?_
  simp only [trA, norm_form_put_t]
  have := Fm_with (k := k) h.1 h.2.2
  exact ⟨Fm_okWp h.1 (by omega), this.1, this.2.1⟩
theorem norm_form_done_z (f : form) (h : Fm f.n ∧ f.n.kids.length ≤ 900) : Z (norm_form_done_m f) fun r => G 501 r.2.1 := by
  refine come0 norm_form_done_N rfl ?_
  simp only [trA, norm_form_done_t]
  have h1 := norm_none_y
  have h2 := G_zn 500
  have h3 := Fm_G h.1 (by omega)
  have h4 := G_sort 1000 501 _ h3
  have h5 := wg10 (G_up (d := 501) 99 h3)
  grind
theorem norm_field_text_z (f : field) (k o : List UInt8) (h : W2 f.n ∧ o.length ≤ 200) : Z (norm_field_text_m f k o) fun r => r.1.n = f.n ∧ r.2.length ≤ 200 := by
  refine come0 norm_field_text_N rfl ?_
  simp only [trA, norm_field_text_t]
  have h1 := W2_fit h.1
  have h2 := W2_g h.1 k
  have h3 := @W1_z (getV f.n k)
  grind
theorem norm_field_truth_z (f : field) (k : List UInt8) (o : Bool) (h : W2 f.n) : Z (norm_field_truth_m f k o) fun r => r.1.n = f.n := by
  refine come0 norm_field_truth_N rfl ?_
  simp only [trA, norm_field_truth_t]
  grind [norm_field_text_z]
theorem norm_field_count_z (f : field) (k : List UInt8) (h : W2 f.n) : Z (norm_field_count_m f k) fun r => r.1.n = f.n := by
  refine come0 norm_field_count_N rfl ?_
  simp only [trA, norm_field_count_t]
  have h1 := W2_fit h
  grind [norm_field_text_z, digit_Count_z]
attribute [irreducible] TL Fm G W W0 W1 W2
end
end Go.Proofs.YtiahkjjfhnfdiaaGreatDoor.Rf
namespace Go.Proofs.YtiahkjjfhnfdiaaGreatDoor.Rf
open Go Go.RowKit Go.Sort Go.Proofs.YtiahkjjfhnfdiaaGreatDoor.Mir
noncomputable section
theorem norm_none_w : norm_none_m.isSome = true ∧ (gv norm_none_m).1 = ⟨0, [], [], []⟩ := norm_none_y
theorem norm_text__norm_Line_1_y (x0 : Node) (hp : W2 x0) : Z (norm_text__norm_Line_1_m x0) fun r => G 501 r.1 := by
  refine come0 norm_text__norm_Line_1_N rfl ?_
  simp only [trA, norm_text__norm_Line_1_t]
  all_goals grind [norm_Line_1_z, norm_none_w, W2_G, G_zn]
theorem internal_stringslite_CutPrefix_z (x0 x1 : List UInt8) : Z (internal_stringslite_CutPrefix_m x0 x1) fun r => r.1.length ≤ x0.length := by
  refine come0 internal_stringslite_CutPrefix_N rfl ?_
  simp only [trA, internal_stringslite_CutPrefix_t, cut, List.length_take, List.length_drop]
  have := internal_stringslite_HasPrefix_z x0 x1
  have h2 : x1.isPrefixOf x0 = true → x1.length ≤ x0.length := fun h => (List.isPrefixOf_iff_prefix.1 h).length_le
  grind
theorem norm_texts_z (x0 : Node) (hp : W2 x0) : Z (norm_texts_m x0) fun r => TL r.1 ∧ r.1.length ≤ x0.kids.length := by
  refine comeZ norm_texts_N rfl (fun | .e y0 => y0 = x0 | .h0 v0 v1 v2 v3 v4 => 0 ≤ v3 ∧ v3 ≤ v2 ∧ v2 = (v1.length : Int) ∧ v1.length ≤ 400 ∧ v1 = x0.kids ∧ v2 = (x0.kids.length : Int) ∧ v4 = x0 ∧ TL v0 ∧ (v0.length : Int) ≤ v3) (fun | .e _ => 10000000000 | .h0 v0 v1 v2 v3 v4 => (v2 - v3).toNat) rfl (by show 10000000000 < _; omega) ?_
  rintro (y0 | ⟨v0, v1, v2, v3, v4⟩) hs
  · cases hs
    simp only [trA, norm_texts_t]
    (repeat' (first | (intro _) | (apply And.intro))) <;> grind [w64e, maxBytes, maxStr, TL_nil, TL_app, TL_d, TL_f, → W2_z, W2_d, W2_f, → W1_z, W1_G, W2_1, W2_G, Fm_nil, Fm_fit, G_z5, G_z6, G_t5, G_t6, cutA_z, cutB_z, norm_none_w, norm_members_z]
  · dsimp only at hs
    simp only [trA, norm_texts_t]
    have := @w64e (v3 + 1)
    (repeat' (first | (intro _) | (apply And.intro))) <;> grind [w64e, maxBytes, maxStr, TL_nil, TL_app, TL_d, TL_f, → W2_z, W2_d, W2_f, → W1_z, W1_G, W2_1, W2_G, Fm_nil, Fm_fit, G_z5, G_z6, G_t5, G_t6, cutA_z, cutB_z, norm_none_w, norm_members_z]
theorem norm_Line_z (x0 : Node) (hp : W2 x0) : Z (norm_Line_m x0) fun r => G 501 r.1 := by
  refine come0 norm_Line_N rfl ?_
  simp only [trA, norm_Line_t]
  all_goals grind [w64e, maxBytes, maxStr, TL_nil, TL_app, TL_d, TL_f, → W2_z, W2_d, W2_f, → W1_z, W1_G, W2_1, W2_G, Fm_nil, Fm_fit, G_z5, G_z6, G_t5, G_t6, cutA_z, cutB_z, norm_none_w, norm_text__norm_Line_1_y]
theorem strings_CutPrefix_z (x0 : List UInt8) (x1 : List UInt8) : Z (strings_CutPrefix_m x0 x1) fun r => r.1.length ≤ x0.length := by
  refine come0 strings_CutPrefix_N rfl ?_
  simp only [trA, strings_CutPrefix_t]
  all_goals grind [w64e, maxBytes, maxStr, TL_nil, TL_app, TL_d, TL_f, → W2_z, W2_d, W2_f, → W1_z, W1_G, W2_1, W2_G, Fm_nil, Fm_fit, G_z5, G_z6, G_t5, G_t6, cutA_z, cutB_z, norm_none_w, internal_stringslite_CutPrefix_z]
theorem norm_Restart_1_z (x0 : List UInt8) (hp : x0.length ≤ 1000) : Z (norm_Restart_1_m x0) fun _ => True := by
  refine come0 norm_Restart_1_N rfl ?_
  simp only [trA, norm_Restart_1_t]
  (repeat' (first | (intro _) | (apply And.intro))) <;> grind [w64e, maxBytes, maxStr, TL_nil, TL_app, TL_d, TL_f, → W2_z, W2_d, W2_f, → W1_z, W1_G, W2_1, W2_G, Fm_nil, Fm_fit, G_z5, G_z6, G_t5, G_t6, cutA_z, cutB_z, norm_none_w, digit_Count_z, strings_CutPrefix_z]
theorem norm_text__norm_Restart_1_z (x0 : Node) (hp : W2 x0) : Z (norm_text__norm_Restart_1_m x0) fun r => G 501 r.1 := by
  refine come0 norm_text__norm_Restart_1_N rfl ?_
  simp only [trA, norm_text__norm_Restart_1_t]
  all_goals grind [w64e, maxBytes, maxStr, TL_nil, TL_app, TL_d, TL_f, → W2_z, W2_d, W2_f, → W1_z, W1_G, W2_1, W2_G, Fm_nil, Fm_fit, G_z5, G_z6, G_t5, G_t6, cutA_z, cutB_z, norm_none_w, norm_Restart_1_z]
theorem norm_Restart_z (x0 : Node) (hp : W2 x0) : Z (norm_Restart_m x0) fun r => G 501 r.1 := by
  refine come0 norm_Restart_N rfl ?_
  simp only [trA, norm_Restart_t]
  all_goals grind [w64e, maxBytes, maxStr, TL_nil, TL_app, TL_d, TL_f, → W2_z, W2_d, W2_f, → W1_z, W1_G, W2_1, W2_G, Fm_nil, Fm_fit, G_z5, G_z6, G_t5, G_t6, cutA_z, cutB_z, norm_none_w, norm_text__norm_Restart_1_z]
theorem norm_Count_1_z (x0 : List UInt8) (hp : x0.length ≤ 1000) : Z (norm_Count_1_m x0) fun _ => True := by
  refine come0 norm_Count_1_N rfl ?_
  simp only [trA, norm_Count_1_t]
  all_goals grind [w64e, maxBytes, maxStr, TL_nil, TL_app, TL_d, TL_f, → W2_z, W2_d, W2_f, → W1_z, W1_G, W2_1, W2_G, Fm_nil, Fm_fit, G_z5, G_z6, G_t5, G_t6, cutA_z, cutB_z, norm_none_w, digit_Count_z]
theorem norm_text__norm_Count_1_z (x0 : Node) (hp : W2 x0) : Z (norm_text__norm_Count_1_m x0) fun r => G 501 r.1 := by
  refine come0 norm_text__norm_Count_1_N rfl ?_
  simp only [trA, norm_text__norm_Count_1_t]
  all_goals grind [w64e, maxBytes, maxStr, TL_nil, TL_app, TL_d, TL_f, → W2_z, W2_d, W2_f, → W1_z, W1_G, W2_1, W2_G, Fm_nil, Fm_fit, G_z5, G_z6, G_t5, G_t6, cutA_z, cutB_z, norm_none_w, norm_Count_1_z]
theorem norm_Count_z (x0 : Node) (hp : W2 x0) : Z (norm_Count_m x0) fun r => G 501 r.1 := by
  refine come0 norm_Count_N rfl ?_
  simp only [trA, norm_Count_t]
  all_goals grind [w64e, maxBytes, maxStr, TL_nil, TL_app, TL_d, TL_f, → W2_z, W2_d, W2_f, → W1_z, W1_G, W2_1, W2_G, Fm_nil, Fm_fit, G_z5, G_z6, G_t5, G_t6, cutA_z, cutB_z, norm_none_w, norm_text__norm_Count_1_z]
theorem norm_Set_z (x0 : Node) (hp : W2 x0) : Z (norm_Set_m x0) fun r => G 501 r.1 := by
  refine comeZ norm_Set_N rfl (fun | .e y0 => y0 = x0 | .h0 v0 v1 v2 v3 v4 v5 v6 v7 => 0 ≤ v4 ∧ v4 ≤ v3 ∧ v3 = (v2.length : Int) ∧ v2.length ≤ 400 ∧ v0 = x0.keys ∧ v1 = true ∧ v2 = x0.kids ∧ v3 = (x0.kids.length : Int) ∧ v5 = (0 : Int) ∧ v6 = ([] : List UInt8) ∧ Fm v7.n ∧ v7.n.kids.length = 0 | .h1 v0 v1 v2 v3 v4 v5 => 0 ≤ v2 ∧ v2 ≤ v1 ∧ v1 = (v0.length : Int) ∧ v0.length ≤ 400 ∧ TL v0 ∧ Fm v5.n ∧ (v5.n.kids.length : Int) ≤ v2) (fun | .e _ => 10000000000 | .h0 v0 v1 v2 v3 v4 v5 v6 v7 => 20000000 + (v3 - v4).toNat | .h1 v0 v1 v2 v3 v4 v5 => 10000000 + (v1 - v2).toNat) rfl (by show 10000000000 < _; omega) ?_
  rintro (y0 | ⟨v0, v1, v2, v3, v4, v5, v6, v7⟩ | ⟨v0, v1, v2, v3, v4, v5⟩) hs
  · cases hs
    simp only [trA, norm_Set_t]
    (repeat' (first | (intro _) | (apply And.intro))) <;> grind [w64e, maxBytes, maxStr, TL_nil, TL_app, TL_d, TL_f, → W2_z, W2_d, W2_f, → W1_z, W1_G, W2_1, W2_G, Fm_nil, Fm_fit, G_z5, G_z6, G_t5, G_t6, cutA_z, cutB_z, norm_none_w, name_Service_z, norm_form_done_z, norm_form_fail_z, norm_form_put_z, norm_members_z, norm_texts_z]
  · dsimp only at hs
    simp only [trA, norm_Set_t]
    have := @w64e (v4 + 1)
    (repeat' (first | (intro _) | (apply And.intro))) <;> grind [w64e, maxBytes, maxStr, TL_nil, TL_app, TL_d, TL_f, → W2_z, W2_d, W2_f, → W1_z, W1_G, W2_1, W2_G, Fm_nil, Fm_fit, G_z5, G_z6, G_t5, G_t6, cutA_z, cutB_z, norm_none_w, name_Service_z, norm_form_done_z, norm_form_fail_z, norm_form_put_z, norm_members_z, norm_texts_z]
  · dsimp only at hs
    simp only [trA, norm_Set_t]
    have := @w64e (v2 + 1)
    (repeat' (first | (intro _) | (apply And.intro))) <;> grind [w64e, maxBytes, maxStr, TL_nil, TL_app, TL_d, TL_f, → W2_z, W2_d, W2_f, → W1_z, W1_G, W2_1, W2_G, Fm_nil, Fm_fit, G_z5, G_z6, G_t5, G_t6, cutA_z, cutB_z, norm_none_w, name_Service_z, norm_form_done_z, norm_form_fail_z, norm_form_put_z, norm_members_z, norm_texts_z]
set_option maxHeartbeats 2000000 in
theorem norm_Pairs_z (x0 : Node) (x1 : Bool) (hp : W2 x0) : Z (norm_Pairs_m x0 x1) fun r => G 501 r.1 := by
  refine comeZ norm_Pairs_N rfl (fun | .e y0 y1 => y0 = x0 ∧ y1 = x1 | .h0_43 v0 v1 v2 v3 v4 v5 => 0 ≤ v2 ∧ v2 ≤ v1 ∧ v1 = (v0.length : Int) ∧ v0.length ≤ 400 ∧ v3 = (0 : Int) ∧ v4 = ([] : List UInt8) ∧ TL v0 ∧ Fm v5.n ∧ (v5.n.kids.length : Int) ≤ v2 | .h0_68 v0 v1 v2 v3 v4 v5 => 0 ≤ v2 ∧ v2 ≤ v1 ∧ v1 = (v0.length : Int) ∧ v0.length ≤ 400 ∧ v3 = (0 : Int) ∧ v4 = ([] : List UInt8) ∧ TL v0 ∧ Fm v5.n ∧ (v5.n.kids.length : Int) ≤ v2 | .h1_43 v0 v1 v2 v3 v4 v5 v6 => 0 ≤ v2 ∧ v2 ≤ v1 ∧ v1 = (v0.length : Int) ∧ v0.length ≤ 400 ∧ v0 = x0.keys ∧ v1 = (x0.keys.length : Int) ∧ v3 = x0 ∧ v4 = (0 : Int) ∧ v5 = ([] : List UInt8) ∧ x0.kind = 3 ∧ Fm v6.n ∧ (v6.n.kids.length : Int) ≤ v2 | .h1_68 v0 v1 v2 v3 v4 v5 v6 => 0 ≤ v2 ∧ v2 ≤ v1 ∧ v1 = (v0.length : Int) ∧ v0.length ≤ 400 ∧ v0 = x0.keys ∧ v1 = (x0.keys.length : Int) ∧ v3 = x0 ∧ v4 = (0 : Int) ∧ v5 = ([] : List UInt8) ∧ x0.kind = 3 ∧ Fm v6.n ∧ (v6.n.kids.length : Int) ≤ v2) (fun | .e _ _ => 10000000000 | .h0_43 v0 v1 v2 v3 v4 v5 => 40000000 + (v1 - v2).toNat | .h0_68 v0 v1 v2 v3 v4 v5 => 30000000 + (v1 - v2).toNat | .h1_43 v0 v1 v2 v3 v4 v5 v6 => 20000000 + (v1 - v2).toNat | .h1_68 v0 v1 v2 v3 v4 v5 v6 => 10000000 + (v1 - v2).toNat) ⟨rfl, rfl⟩ (by show 10000000000 < _; omega) ?_
  rintro (⟨y0, y1⟩ | ⟨v0, v1, v2, v3, v4, v5⟩ | ⟨v0, v1, v2, v3, v4, v5⟩ | ⟨v0, v1, v2, v3, v4, v5, v6⟩ | ⟨v0, v1, v2, v3, v4, v5, v6⟩) hs
  · obtain ⟨rfl, rfl⟩ := hs
    simp only [trA, norm_Pairs_t]
    (repeat' (first | (intro _) | (apply And.intro))) <;> grind [w64e, maxBytes, maxStr, TL_nil, TL_app, TL_d, TL_f, → W2_z, W2_d, W2_f, → W1_z, W1_G, W2_1, W2_G, Fm_nil, Fm_fit, G_z5, G_z6, G_t5, G_t6, cutA_z, cutB_z, norm_none_w, name_Service_z, name_Variable_z, norm_form_done_z, norm_form_fail_z, norm_form_put_z, norm_members_z, norm_texts_z]
  · dsimp only at hs
    simp only [trA, norm_Pairs_t]
    have := @w64e (v2 + 1)
    (repeat' (first | (intro _) | (apply And.intro))) <;> grind [w64e, maxBytes, maxStr, TL_nil, TL_app, TL_d, TL_f, → W2_z, W2_d, W2_f, → W1_z, W1_G, W2_1, W2_G, Fm_nil, Fm_fit, G_z5, G_z6, G_t5, G_t6, cutA_z, cutB_z, norm_none_w, name_Service_z, name_Variable_z, norm_form_done_z, norm_form_fail_z, norm_form_put_z, norm_members_z, norm_texts_z]
  · dsimp only at hs
    simp only [trA, norm_Pairs_t]
    have := @w64e (v2 + 1)
    (repeat' (first | (intro _) | (apply And.intro))) <;> grind [w64e, maxBytes, maxStr, TL_nil, TL_app, TL_d, TL_f, → W2_z, W2_d, W2_f, → W1_z, W1_G, W2_1, W2_G, Fm_nil, Fm_fit, G_z5, G_z6, G_t5, G_t6, cutA_z, cutB_z, norm_none_w, name_Service_z, name_Variable_z, norm_form_done_z, norm_form_fail_z, norm_form_put_z, norm_members_z, norm_texts_z]
  · dsimp only at hs
    simp only [trA, norm_Pairs_t]
    have := @w64e (v2 + 1)
    (repeat' (first | (intro _) | (apply And.intro))) <;> grind [w64e, maxBytes, maxStr, TL_nil, TL_app, TL_d, TL_f, → W2_z, W2_d, W2_f, → W1_z, W1_G, W2_1, W2_G, Fm_nil, Fm_fit, G_z5, G_z6, G_t5, G_t6, cutA_z, cutB_z, norm_none_w, name_Service_z, name_Variable_z, norm_form_done_z, norm_form_fail_z, norm_form_put_z, norm_members_z, norm_texts_z]
  · dsimp only at hs
    simp only [trA, norm_Pairs_t]
    have := @w64e (v2 + 1)
    (repeat' (first | (intro _) | (apply And.intro))) <;> grind [w64e, maxBytes, maxStr, TL_nil, TL_app, TL_d, TL_f, → W2_z, W2_d, W2_f, → W1_z, W1_G, W2_1, W2_G, Fm_nil, Fm_fit, G_z5, G_z6, G_t5, G_t6, cutA_z, cutB_z, norm_none_w, name_Service_z, name_Variable_z, norm_form_done_z, norm_form_fail_z, norm_form_put_z, norm_members_z, norm_texts_z]
end
end Go.Proofs.YtiahkjjfhnfdiaaGreatDoor.Rf
namespace Go.Proofs.YtiahkjjfhnfdiaaGreatDoor.Rf
open Go Go.RowKit Go.Sort Go.Proofs.YtiahkjjfhnfdiaaGreatDoor.Mir
noncomputable section
theorem cut_z {α : Type} (l : List α) (a b : Int) (h : 0 ≤ a ∧ a ≤ b ∧ b ≤ l.length) : (cut l a b).length = (b - a).toNat := by
  unfold cut
  rw [List.length_take, List.length_drop]
  omega
theorem ixb_z : ∀ (s : List UInt8) (c : UInt8), Lib.indexByte s c < s.length ∧ -1 ≤ Lib.indexByte s c
  | [], c => by simp [Lib.indexByte]
  | b :: t, c => by
    have := ixb_z t c
    unfold Lib.indexByte
    simp only [List.length_cons]
    split
    · omega
    · split
      · omega
      · omega
theorem ixbV_z (s : List UInt8) (c : Int) : ixbV s c < s.length ∧ -1 ≤ ixbV s c := ixb_z s _
set_option maxHeartbeats 4000000 in
theorem word_Split_z (x0 : List UInt8) (hp : x0.length ≤ 1000000) : Z (word_Split_m x0) fun r => r.2 = 0 → r.1.length ≤ 32 := by
  refine comeZ word_Split_N rfl (fun | .e y0 => y0 = x0 | .h100 v0 v1 v2 => v0.length ≤ 2000000 | .h101 v0 v1 v2 v3 v4 => v0 = x0 ∧ 0 ≤ v3 ∧ v3 ≤ x0.length ∧ (v1.length : Int) ≤ v3 ∧ (v2.length : Int) ≤ v3 | .h102 v0 v1 v2 v3 v4 => v0 = x0 ∧ 0 ≤ v3 ∧ v3 ≤ x0.length ∧ (v1.length : Int) ≤ v3 ∧ (v2.length : Int) ≤ v3 | .h103 v0 v1 v2 v3 v4 => v0 = x0 ∧ 0 ≤ v3 ∧ v3 ≤ x0.length ∧ (v1.length : Int) ≤ v3 ∧ (v2.length : Int) ≤ v3)
    (fun | .e _ => 10000000000 | .h100 v0 v1 v2 => 0 | .h101 v0 v1 v2 v3 v4 => ((x0.length : Int) - v3).toNat + 1 | .h102 v0 v1 v2 v3 v4 => ((x0.length : Int) - v3).toNat + 1 | .h103 v0 v1 v2 v3 v4 => ((x0.length : Int) - v3).toNat + 1) rfl (by show 10000000000 < _; omega) ?_
  rintro (y0 | ⟨v0, v1, v2⟩ | ⟨v0, v1, v2, v3, v4⟩ | ⟨v0, v1, v2, v3, v4⟩ | ⟨v0, v1, v2, v3, v4⟩) hs
  · cases hs
    simp only [trA, word_Split_t, maxBytes, List.length_append, List.length_cons, List.length_nil, List.length_map]
    (repeat' (first | (intro _) | (apply And.intro))) <;> grind [word_blank_z]
  · dsimp only at hs
    simp only [trA, word_Split_t, maxBytes, List.length_append, List.length_cons, List.length_nil, List.length_map]
    (repeat' (first | (intro _) | (apply And.intro))) <;> grind
  · obtain ⟨rfl, h1, h2, h3, h4⟩ := hs
    simp only [trA, word_Split_t, maxBytes, List.length_append, List.length_cons, List.length_nil, List.length_map]
    (repeat' (first | (intro _) | (apply And.intro))) <;> grind [w64e, word_blank_z]
  · obtain ⟨rfl, h1, h2, h3, h4⟩ := hs
    simp only [trA, word_Split_t, maxBytes, List.length_append, List.length_cons, List.length_nil, List.length_map]
    have q1 := ixbV_z (cut v0 v3 (v0.length : Int)) 39
    rw [cut_z v0 v3 (v0.length : Int) ⟨h1, h2, Int.le_refl _⟩] at q1
    generalize ixbV (cut v0 v3 (v0.length : Int)) 39 = k at q1 ⊢
    have q2 := cut_z v0 v3 (w64 (v3 + k))
    (repeat' (first | (intro _) | (apply And.intro))) <;> grind [w64e]
  · obtain ⟨rfl, h1, h2, h3, h4⟩ := hs
    simp only [trA, word_Split_t, maxBytes, List.length_append, List.length_cons, List.length_nil, List.length_map]
    (repeat' (first | (intro _) | (apply And.intro))) <;> grind [w64e]
theorem norm_long_z (x0 : Node) (hp : W2 x0) : Z (norm_long_m x0) fun r => r.1.host.length ≤ 200 := by
  refine come0 norm_long_N rfl ?_
  simp only [trA, norm_long_t]
  (repeat' (first | (intro _) | (apply And.intro))) <;> grind [w64e, maxBytes, maxStr, TL_nil, TL_app, TL_d, TL_f, → W2_z, W2_d, W2_f, → W1_z, W1_G, W2_1, W2_G, Fm_nil, Fm_fit, G_z5, G_z6, G_t5, G_t6, cutA_z, cutB_z, norm_none_w, norm_field_count_z, norm_field_text_z, port_Right_z]
set_option maxHeartbeats 2000000 in
theorem norm_Ports_z (x0 : Node) (hp : W2 x0) : Z (norm_Ports_m x0) fun r => G 501 r.1 := by
  refine comeZ norm_Ports_N rfl (fun | .e y0 => y0 = x0 | .h0 v0 v1 v2 v3 v4 v5 => 0 ≤ v2 ∧ v2 ≤ v1 ∧ v0 = x0.kids ∧ v1 = (x0.kids.length : Int) ∧ v3 = (0 : Int) ∧ v4 = ([] : List UInt8) ∧ Fm v5.n ∧ (v5.n.kids.length : Int) ≤ v2 | .h1 v0 v1 v2 v3 v4 v5 v6 => 0 ≤ v2 ∧ v2 ≤ v1 ∧ v1 = (v0.length : Int) ∧ v0.length ≤ 400 ∧ v0 = x0.keys ∧ v1 = (x0.keys.length : Int) ∧ v3 = x0 ∧ v4 = (0 : Int) ∧ v5 = ([] : List UInt8) ∧ x0.kind = 3 ∧ Fm v6.n ∧ (v6.n.kids.length : Int) ≤ v2) (fun | .e _ => 10000000000 | .h0 v0 v1 v2 v3 v4 v5 => 20000000 + (v1 - v2).toNat | .h1 v0 v1 v2 v3 v4 v5 v6 => 10000000 + (v1 - v2).toNat) rfl (by show 10000000000 < _; omega) ?_
  rintro (y0 | ⟨v0, v1, v2, v3, v4, v5⟩ | ⟨v0, v1, v2, v3, v4, v5, v6⟩) hs
  · cases hs
    simp only [trA, norm_Ports_t]
    (repeat' (first | (intro _) | (apply And.intro))) <;> grind [w64e, maxBytes, maxStr, TL_nil, TL_app, TL_d, TL_f, → W2_z, W2_d, W2_f, → W1_z, W1_G, W2_1, W2_G, Fm_nil, Fm_fit, G_z5, G_z6, G_t5, G_t6, cutA_z, cutB_z, norm_none_w, norm_form_done_z, norm_form_fail_z, norm_form_put_z, norm_long_z, norm_members_z, norm_none_z, port_Parse_z, port_Text_z]
  · dsimp only at hs
    simp only [trA, norm_Ports_t]
    have := @w64e (v2 + 1)
    (repeat' (first | (intro _) | (apply And.intro))) <;> grind [w64e, maxBytes, maxStr, TL_nil, TL_app, TL_d, TL_f, → W2_z, W2_d, W2_f, → W1_z, W1_G, W2_1, W2_G, Fm_nil, Fm_fit, G_z5, G_z6, G_t5, G_t6, cutA_z, cutB_z, norm_none_w, norm_form_done_z, norm_form_fail_z, norm_form_put_z, norm_long_z, norm_members_z, norm_none_z, port_Parse_z, port_Text_z]
  · dsimp only at hs
    simp only [trA, norm_Ports_t]
    have := @w64e (v2 + 1)
    (repeat' (first | (intro _) | (apply And.intro))) <;> grind [w64e, maxBytes, maxStr, TL_nil, TL_app, TL_d, TL_f, → W2_z, W2_d, W2_f, → W1_z, W1_G, W2_1, W2_G, Fm_nil, Fm_fit, G_z5, G_z6, G_t5, G_t6, cutA_z, cutB_z, norm_none_w, norm_form_done_z, norm_form_fail_z, norm_form_put_z, norm_long_z, norm_members_z, norm_none_z, port_Parse_z, port_Text_z]
theorem norm_said_z (x0 : Bool) : Z (norm_said_m x0) fun r => G 500 r := by
  refine come0 norm_said_N rfl ?_
  simp only [trA, norm_said_t]
  all_goals grind [w64e, maxBytes, maxStr, TL_nil, TL_app, TL_d, TL_f, → W2_z, W2_d, W2_f, → W1_z, W1_G, W2_1, W2_G, Fm_nil, Fm_fit, G_z5, G_z6, G_t5, G_t6, cutA_z, cutB_z, norm_none_w]
end
end Go.Proofs.YtiahkjjfhnfdiaaGreatDoor.Rf
namespace Go.Proofs.YtiahkjjfhnfdiaaGreatDoor.Rf
open Go Go.RowKit Go.Sort Go.Proofs.YtiahkjjfhnfdiaaGreatDoor.Mir
noncomputable section
def R2 (l : List Node) : Prop := ∀ y ∈ l, G 1 y
theorem R2_nil : R2 [] := fun y h => by cases h
theorem R2_app {l : List Node} (h : R2 l) (s : List UInt8) : R2 (l ++ [txt1 s]) := fun x hx => by
  rcases List.mem_append.1 hx with hx | hx
  · exact h x hx
  · rw [List.mem_singleton.1 hx]
    exact G_txt 0 1 s (by decide)
theorem R2_G {l : List Node} (h : R2 l) (hl : l.length ≤ 400) : G 501 ⟨2, [], [], l⟩ := by
  have : G 2 ⟨2, [], [], l⟩ := by
    unfold G
    exact wg_iff.2 ⟨Nat.zero_le _, by show l.length ≤ 1000; omega, (fun e => by cases e), fun y hy => by have := h y hy; unfold G at this; exact this⟩
  unfold G at this ⊢
  exact wg_deep (n := 2) 499 this
attribute [irreducible] R2
theorem norm_row_z (x0 : List (List UInt8)) (hp : x0.length ≤ 400) : Z (norm_row_m x0) fun r => G 501 r := by
  refine comeZ norm_row_N rfl (fun | .e y0 => y0 = x0 | .h0 v0 v1 v2 v3 v4 v5 v6 v7 => 0 ≤ v2 ∧ v2 ≤ v1 ∧ v1 = (v0.length : Int) ∧ v0.length ≤ 400 ∧ v5 = (2 : Int) ∧ v6 = ([] : List UInt8) ∧ R2 v7 ∧ (v7.length : Int) ≤ v2) (fun | .e _ => 10000000000 | .h0 v0 v1 v2 v3 v4 v5 v6 v7 => (v1 - v2).toNat) rfl (by show 10000000000 < _; omega) ?_
  rintro (y0 | ⟨v0, v1, v2, v3, v4, v5, v6, v7⟩) hs
  · cases hs
    simp only [trA, norm_row_t]
    (repeat' (first | (intro _) | (apply And.intro))) <;> grind [R2_nil]
  · dsimp only at hs
    simp only [trA, norm_row_t, maxBytes]
    (repeat' (first | (intro _) | (apply And.intro))) <;> grind [R2_app, R2_G, w64e]
theorem norm_Words_z (x0 : Node) (hp : W2 x0) : Z (norm_Words_m x0) fun r => G 501 r.1 := by
  refine come0 norm_Words_N rfl ?_
  simp only [trA, norm_Words_t]
  have h0 := W2_z hp
  (repeat' (first | (intro _) | (apply And.intro))) <;> grind [norm_none_w, norm_row_z, norm_texts_z, word_Split_z, G_z6]
theorem digit_split_z (x0 : List UInt8) (hp : x0.length ≤ 1000000) : Z (digit_split_m x0) fun r => r.1.length ≤ x0.length ∧ r.2.1.length ≤ x0.length := by
  refine comeZ digit_split_N rfl (fun | .e y0 => y0 = x0 | .h0 v0 v1 v2 => v0 = x0 ∧ 0 ≤ v2 ∧ v2 ≤ v1 ∧ v1 = (x0.length : Int)) (fun | .e _ => 10000000000 | .h0 v0 v1 v2 => (v1 - v2).toNat) rfl (by show 10000000000 < _; omega) ?_
  rintro (y0 | ⟨v0, v1, v2⟩) hs
  · cases hs
    simp only [trA, digit_split_t]
    (repeat' (first | (intro _) | (apply And.intro))) <;> grind
  · obtain ⟨rfl, h1, h2, h3⟩ := hs
    simp only [trA, digit_split_t, cut, List.length_take, List.length_drop, List.length_nil]
    (repeat' (first | (intro _) | (apply And.intro))) <;> grind [w64e]
theorem digit_Milli_z (x0 : List UInt8) (hp : x0.length ≤ 1000000) : Z (digit_Milli_m x0) fun _ => True := by
  refine comeZ digit_Milli_N rfl (fun | .e y0 => y0 = x0 | .h0 v0 v1 v2 v3 => v0.length ≤ 1000000 ∧ 0 ≤ v3 ∧ v3 ≤ 3) (fun | .e _ => 10000000000 | .h0 v0 v1 v2 v3 => (3 - v3).toNat) rfl (by show 10000000000 < _; omega) ?_
  rintro (y0 | ⟨v0, v1, v2, v3⟩) hs
  · cases hs
    simp only [trA, digit_Milli_t]
    (repeat' (first | (intro _) | (apply And.intro))) <;> grind [digit_split_z, w64e]
  · dsimp only at hs
    simp only [trA, digit_Milli_t]
    (repeat' (first | (intro _) | (apply And.intro))) <;> grind [digit_whole_z, w64e]
theorem norm_Cpus_1_z (x0 : List UInt8) (hp : x0.length ≤ 1000) : Z (norm_Cpus_1_m x0) fun _ => True := by
  refine come0 norm_Cpus_1_N rfl ?_
  simp only [trA, norm_Cpus_1_t]
  (repeat' (first | (intro _) | (apply And.intro))) <;> grind [digit_Milli_z]
theorem norm_text__norm_Cpus_1_z (x0 : Node) (hp : W2 x0) : Z (norm_text__norm_Cpus_1_m x0) fun r => G 501 r.1 := by
  refine come0 norm_text__norm_Cpus_1_N rfl ?_
  simp only [trA, norm_text__norm_Cpus_1_t]
  have h0 := W2_z hp
  (repeat' (first | (intro _) | (apply And.intro))) <;> grind [norm_Cpus_1_z, norm_none_w, W2_G, G_z6]
theorem norm_Cpus_z (x0 : Node) (hp : W2 x0) : Z (norm_Cpus_m x0) fun r => G 501 r.1 := by
  refine come0 norm_Cpus_N rfl ?_
  simp only [trA, norm_Cpus_t]
  (repeat' (first | (intro _) | (apply And.intro))) <;> grind [norm_text__norm_Cpus_1_z]
theorem size_unit_z (x0 : List UInt8) : Z (size_unit_m x0) fun r => 0 ≤ r.1 ∧ r.1 ≤ 3 := by
  refine come0 size_unit_N rfl ?_
  simp only [trA, size_unit_t]
  (repeat' (first | (intro _) | (apply And.intro))) <;> grind
theorem size_Parse_z (x0 : List UInt8) (hp : x0.length ≤ 1000000) : Z (size_Parse_m x0) fun _ => True := by
  refine comeZ size_Parse_N rfl (fun | .e y0 => y0 = x0 | .h0 v0 v1 => v0 = x0 ∧ 0 ≤ v1 ∧ v1 ≤ (x0.length : Int)) (fun | .e _ => 10000000000 | .h0 v0 v1 => v1.toNat) rfl (by show 10000000000 < _; omega) ?_
  rintro (y0 | ⟨v0, v1⟩) hs
  · cases hs
    simp only [trA, size_Parse_t]
    (repeat' (first | (intro _) | (apply And.intro))) <;> grind
  · obtain ⟨rfl, h1, h2⟩ := hs
    simp only [trA, size_Parse_t]
    have h3 := size_unit_z (cut v0 v1 (v0.length : Int))
    have h4 := @digit_Count_z (cut v0 0 v1)
    have h5 := cut_z v0 0 v1
    have h6 := @w64e (v1 - 1)
    have h7 := @w64e (10 * (gv (size_unit_m (cut v0 v1 (v0.length : Int)))).1)
    (repeat' (first | (intro _) | (apply And.intro))) <;> grind
theorem size_level_z (x0 : Int) : Z (size_level_m x0) fun r => 0 ≤ r ∧ r ≤ 3 := by
  refine comeZ size_level_N rfl (fun | .e y0 => y0 = x0 | .h0 v0 v1 => 0 ≤ v1 ∧ v1 ≤ 3) (fun | .e _ => 10000000000 | .h0 v0 v1 => (3 - v1).toNat) rfl (by show 10000000000 < _; omega) ?_
  rintro (y0 | ⟨v0, v1⟩) hs
  · cases hs
    simp only [trA, size_level_t]
    (repeat' (first | (intro _) | (apply And.intro))) <;> grind
  · dsimp only at hs
    simp only [trA, size_level_t]
    (repeat' (first | (intro _) | (apply And.intro))) <;> grind [w64e]
end
end Go.Proofs.YtiahkjjfhnfdiaaGreatDoor.Rf
namespace Go.Proofs.YtiahkjjfhnfdiaaGreatDoor.Rf
open Go Go.RowKit Go.Sort Go.Proofs.YtiahkjjfhnfdiaaGreatDoor.Mir
noncomputable section
theorem div_z (x : Int) (k : Nat) (h : 0 ≤ x) : 0 ≤ x / 2 ^ k ∧ x / 2 ^ k ≤ x := by
  have hp : (0 : Int) < 2 ^ k := Int.pow_pos (by decide)
  exact ⟨Int.ediv_nonneg h (by omega), Int.ediv_le_self _ h⟩
theorem size_Text_z (x0 : Int) : Z (size_Text_m x0) fun r => r.length ≤ 200 := by
  refine come0 size_Text_N rfl ?_
  simp only [trA, size_Text_t, maxStr, List.length_append]
  have h1 := size_level_z x0
  have h2 := @w64e (10 * gv (size_level_m x0))
  have h3 := fun h => div_z x0 (w64 (10 * gv (size_level_m x0))).toNat h
  have h4 := digit_Text_z (x0 / 2 ^ (w64 (10 * gv (size_level_m x0))).toNat)
  have h5 : ∀ i, ((([[], [107], [109], [103]] : List (List UInt8))).getD i (dflt Ty.str)).length ≤ 1 := fun i => by
    match i with
    | 0 => decide
    | 1 => decide
    | 2 => decide
    | 3 => decide
    | n + 4 => exact Nat.zero_le _
  have h6 := h5 (gv (size_level_m x0)).toNat
  generalize (([[], [107], [109], [103]] : List (List UInt8))).getD (gv (size_level_m x0)).toNat (dflt Ty.str) = q at h6 ⊢
  (repeat' (first | (intro _) | (apply And.intro))) <;> grind
theorem norm_Bytes_z (x0 : Node) (hp : W2 x0) : Z (norm_Bytes_m x0) fun r => G 501 r.1 := by
  refine come0 norm_Bytes_N rfl ?_
  simp only [trA, norm_Bytes_t]
  have h0 := W2_z hp
  (repeat' (first | (intro _) | (apply And.intro))) <;> grind [size_Parse_z, size_Text_z, norm_none_w, G_z6, G_t6]
theorem okT_z (s : List UInt8) (h : s.length ≤ 1000000) : okT s = true := by
  have := mount_path_z s h
  unfold okT
  rw [this.1, decide_eq_true h, Bool.true_and, Bool.true_and, Bool.or_eq_true]
  cases h1 : gv (mount_path_m s) with
  | true => exact .inr (decide_eq_true (this.2 h1))
  | false => exact .inl rfl
theorem mount_Right_z (x0 : Mount) (hp : x0.source.length ≤ 1000000 ∧ x0.target.length ≤ 1000000) : Z (mount_Right_m x0) fun _ => True := by
  refine come0 mount_Right_N rfl ?_
  simp only [trA, mount_Right_t]
  have h1 := okT_z x0.target hp.2
  have h2 := mount_path_z x0.source hp.1
  (repeat' (first | (intro _) | (apply And.intro))) <;> grind [mount_volume_z]
theorem norm_place_z (x0 : Node) (hp : W2 x0) : Z (norm_place_m x0) fun r => r.1.source.length ≤ 200 ∧ r.1.target.length ≤ 200 := by
  refine come0 norm_place_N rfl ?_
  simp only [trA, norm_place_t]
  (repeat' (first | (intro _) | (apply And.intro))) <;> grind [norm_field_text_z, norm_field_truth_z, mount_Right_z]
theorem mount_Text_z (x0 : Mount) (hp : x0.source.length ≤ 1000000 ∧ x0.target.length ≤ 1000000) : Z (mount_Text_m x0) fun _ => True := by
  refine come0 mount_Text_N rfl ?_
  simp only [trA, mount_Text_t, maxStr, List.length_append, List.length_cons, List.length_nil]
  (repeat' (first | (intro _) | (apply And.intro))) <;> grind [mount_Right_z]
theorem mount_Right_0 (b : Bool) : (mount_Right_m ⟨[], [], b⟩).isSome = true := (mount_Right_z ⟨[], [], b⟩ ⟨Nat.zero_le _, Nat.zero_le _⟩).1
theorem cut_d (l : List (List UInt8)) (a b : Int) (i n : Nat) (h : ∀ j, (l.getD j (Df.d : List UInt8)).length ≤ n) : ((cut l a b).getD i (Df.d : List UInt8)).length ≤ n := by
  have hm : ∀ x ∈ l, x.length ≤ n := fun x hx => by
    obtain ⟨j, hj, rfl⟩ := List.mem_iff_getElem.1 hx
    have := h j
    rwa [List.getD, List.getElem?_eq_getElem hj] at this
  rw [List.getD]
  cases e : (cut l a b)[i]? with
  | none => exact Nat.zero_le _
  | some x => exact hm x (List.mem_of_mem_drop (List.mem_of_mem_take (List.mem_of_getElem? e)))
theorem spP_cut (s : List UInt8) (c : UInt8) (a b x y : Int) (i : Nat) : ((cut (spP s [c] a b) x y).getD i (Df.d : List UInt8)).length ≤ s.length := cut_d _ x y i _ fun j => spP_d s c a b j
set_option maxHeartbeats 2000000 in
theorem mount_Parse_z (x0 : List UInt8) (hp : x0.length ≤ 1000000) : Z (mount_Parse_m x0) fun r => r.1.source.length ≤ x0.length ∧ r.1.target.length ≤ x0.length := by
  refine come0 mount_Parse_N rfl ?_
  simp only [trA, mount_Parse_t]
  have h1 := spP_c x0 58 0 (-1)
  have h2 := cut_z (spP x0 [58] 0 (-1)) 0 (w64 (((spP x0 [58] 0 (-1)).length : Int) - 1))
  have h3 := @w64e (((spP x0 [58] 0 (-1)).length : Int) - 1)
  (repeat' (first | (intro _) | (apply And.intro))) <;> grind [spP_d, spP_f, spP_cut, mount_Right_z, mount_Right_0]
set_option maxHeartbeats 2000000 in
theorem norm_Mounts_z (x0 : Node) (hp : W2 x0) : Z (norm_Mounts_m x0) fun r => G 501 r.1 := by
  refine comeZ norm_Mounts_N rfl (fun | .e y0 => y0 = x0 | .h0 v0 v1 v2 v3 v4 v5 => 0 ≤ v2 ∧ v2 ≤ v1 ∧ v0 = x0.kids ∧ v1 = (x0.kids.length : Int) ∧ v3 = (0 : Int) ∧ v4 = ([] : List UInt8) ∧ Fm v5.n ∧ (v5.n.kids.length : Int) ≤ v2 | .h1 v0 v1 v2 v3 v4 v5 v6 => 0 ≤ v2 ∧ v2 ≤ v1 ∧ v1 = (v0.length : Int) ∧ v0.length ≤ 400 ∧ v0 = x0.keys ∧ v1 = (x0.keys.length : Int) ∧ v3 = x0 ∧ v4 = (0 : Int) ∧ v5 = ([] : List UInt8) ∧ x0.kind = 3 ∧ Fm v6.n ∧ (v6.n.kids.length : Int) ≤ v2) (fun | .e _ => 10000000000 | .h0 v0 v1 v2 v3 v4 v5 => 20000000 + (v1 - v2).toNat | .h1 v0 v1 v2 v3 v4 v5 v6 => 10000000 + (v1 - v2).toNat) rfl (by show 10000000000 < _; omega) ?_
  rintro (y0 | ⟨v0, v1, v2, v3, v4, v5⟩ | ⟨v0, v1, v2, v3, v4, v5, v6⟩) hs
  · cases hs
    simp only [trA, norm_Mounts_t]
    (repeat' (first | (intro _) | (apply And.intro))) <;> grind [w64e, maxBytes, maxStr, TL_nil, TL_app, TL_d, TL_f, → W2_z, W2_d, W2_f, → W1_z, W1_G, W2_1, W2_G, Fm_nil, Fm_fit, G_z5, G_z6, G_t5, G_t6, cutA_z, cutB_z, norm_none_w, mount_Parse_z, mount_Text_z, norm_form_done_z, norm_form_fail_z, norm_form_put_z, norm_members_z, norm_none_z, norm_place_z]
  · dsimp only at hs
    simp only [trA, norm_Mounts_t]
    have := @w64e (v2 + 1)
    (repeat' (first | (intro _) | (apply And.intro))) <;> grind [w64e, maxBytes, maxStr, TL_nil, TL_app, TL_d, TL_f, → W2_z, W2_d, W2_f, → W1_z, W1_G, W2_1, W2_G, Fm_nil, Fm_fit, G_z5, G_z6, G_t5, G_t6, cutA_z, cutB_z, norm_none_w, mount_Parse_z, mount_Text_z, norm_form_done_z, norm_form_fail_z, norm_form_put_z, norm_members_z, norm_none_z, norm_place_z]
  · dsimp only at hs
    simp only [trA, norm_Mounts_t]
    have := @w64e (v2 + 1)
    (repeat' (first | (intro _) | (apply And.intro))) <;> grind [w64e, maxBytes, maxStr, TL_nil, TL_app, TL_d, TL_f, → W2_z, W2_d, W2_f, → W1_z, W1_G, W2_1, W2_G, Fm_nil, Fm_fit, G_z5, G_z6, G_t5, G_t6, cutA_z, cutB_z, norm_none_w, mount_Parse_z, mount_Text_z, norm_form_done_z, norm_form_fail_z, norm_form_put_z, norm_members_z, norm_none_z, norm_place_z]
end
end Go.Proofs.YtiahkjjfhnfdiaaGreatDoor.Rf
namespace Go.Proofs.YtiahkjjfhnfdiaaGreatDoor.Rf
open Go Go.RowKit Go.Sort Go.Proofs.YtiahkjjfhnfdiaaGreatDoor.Mir
noncomputable section
theorem G_kid {d : Nat} {x : Node} (h : G (d + 1) x) (i : Nat) : G (d + 1) (x.kids.getD i (Df.d : Node)) ∧ (0 < d → i < x.kids.length → G d (x.kids.getD i (Df.d : Node))) := by
  unfold G at *
  rw [List.getD]
  cases e : x.kids[i]? with
  | none =>
    refine ⟨by have := G_zn d; unfold G at this; exact this, fun _ hi => ?_⟩
    rw [List.getElem?_eq_getElem hi] at e
    cases e
  | some y =>
    have := (wg_iff.1 h).2.2.2 y (List.mem_of_getElem? e)
    exact ⟨wg_deep 1 this, fun _ _ => this⟩
theorem G_keys {d : Nat} {x : Node} (h : G (d + 1) x) : x.keys.length ≤ 1000 ∧ x.kids.length ≤ 1000 := by
  unfold G at h
  exact ⟨(wg_iff.1 h).1, (wg_iff.1 h).2.1⟩
theorem nbr_z : ∀ (n : Nat) (b : budget) (x : Node) (deep : Int), 13 ≤ (n : Int) + deep → 0 ≤ deep → deep ≤ 100 → G (n + 1) x → Z (node_budget_right_l (n + 1) b x deep) fun _ => True := by
  intro n
  induction n with
  | zero =>
    intro b x deep h1 h2 h3 h4
    refine comeZ (node_budget_right_N _) (s := .e b x deep) rfl (fun | .e y0 y1 y2 => y2 = deep | .h0 _ _ _ _ _ => False) (fun _ => 0) rfl (by decide) ?_
    rintro (⟨y0, y1, y2⟩ | ⟨v0, v1, v2, v3, v4⟩) hs
    · cases hs
      simp only [trA, node_budget_right_t]
      (repeat' (first | (intro _) | (apply And.intro))) <;> grind
    · exact hs.elim
  | succ n ih =>
    intro b x deep h1 h2 h3 h4
    have hk := G_keys h4
    refine comeZ (t := node_budget_right_t (node_budget_right_l (n + 1))) (node_budget_right_N _) (s := .e b x deep) rfl (fun | .e y0 y1 y2 => y1 = x ∧ y2 = deep | .h0 v0 v1 v2 v3 v4 => v0 = deep ∧ deep ≤ 12 ∧ v1 = x.kids ∧ v2 = (x.kids.length : Int) ∧ 0 ≤ v3 ∧ v3 ≤ v2) (fun | .e _ _ _ => 10000000000 | .h0 v0 v1 v2 v3 v4 => (v2 - v3).toNat) ⟨rfl, rfl⟩ (by show 10000000000 < _; omega) ?_
    rintro (⟨y0, y1, y2⟩ | ⟨v0, v1, v2, v3, v4⟩) hs
    · obtain ⟨rfl, rfl⟩ := hs
      simp only [trA, node_budget_right_t, ln6]
      (repeat' (first | (intro _) | (apply And.intro))) <;> grind
    · obtain ⟨rfl, h5, rfl, rfl, h6, h7⟩ := hs
      simp only [trA, node_budget_right_t]
      have h8 := @w64e (v0 + 1)
      have h9 := @w64e (v3 + 1)
      have h10 := (G_kid h4 v3.toNat).2
      have h11 := ih ⟨v4⟩ (x.kids.getD v3.toNat Df.d) (v0 + 1)
      (repeat' (first | (intro _) | (apply And.intro))) <;> grind
theorem node_Right_z (x : Node) (h : G 600 x) : Z (node_Right_m x) fun _ => True := by
  refine come0 node_Right_N rfl ?_
  simp only [trA, node_Right_t]
  have h2 : G (999999999999999999999999999998 + 1 + 1) x := by
    unfold G at *
    exact wg_deep (n := 600) 999999999999999999999999999400 h
  have := nbr_z 999999999999999999999999999999 ⟨2000⟩ x 1 (by omega) (by omega) (by omega) h2
  exact ⟨this.1, trivial⟩
theorem norm_said_w (b : Bool) : Z (norm_said_m b) fun r => r = txt1 [116, 114, 117, 101] ∨ r = txt1 [102, 97, 108, 115, 101] := by
  refine come0 norm_said_N rfl ?_
  simp only [trA, norm_said_t]
  (repeat' (first | (intro _) | (apply And.intro))) <;> grind
theorem wf1 (d : Nat) (k : Int) (s : List UInt8) (_ : k ≠ 3) (hs : s.length ≤ 200) : wr (d + 1) ⟨k, s, [], []⟩ := ⟨Nat.zero_le _, Nat.zero_le _, (fun _ => rfl), hs, (fun k hk => by cases hk), (fun y hy => by cases hy)⟩
theorem W1_t (s : List UInt8) (hs : s.length ≤ 200) : W1 (txt1 s) := by
  unfold W1 W
  exact wf1 490 1 s (by decide) hs
theorem map_W {ks : List (List UInt8)} {l : List Node} (h1 : ks.length ≤ 200) (h2 : ks.length = l.length) (h3 : ∀ k ∈ ks, k.length ≤ 200) (h4 : ∀ y ∈ l, W1 y) : W2 ⟨3, [], ks, l⟩ := by
  unfold W2 W
  refine ⟨h1, by show l.length ≤ 200; omega, fun _ => h2, Nat.zero_le _, h3, fun y hy => ?_⟩
  have := h4 y hy
  unfold W1 W at this
  exact this
theorem W2_zn : W2 ⟨0, [], [], []⟩ := by
  unfold W2 W
  exact wf1 491 0 [] (by decide) (Nat.zero_le _)
theorem node_Map_z (ks : List (List UInt8)) (l : List Node) (hp : W2 ⟨3, [], ks, l⟩) : Z (node_Map_m ks l) fun r => r = ⟨0, [], [], []⟩ ∨ r = ⟨3, [], ks, l⟩ := by
  refine come0 node_Map_N rfl ?_
  simp only [trA, node_Map_t, maxBytes]
  have h1 := W2_z hp
  have h2 := node_Right_z _ (by have := W2_G hp; unfold G at *; exact wg_deep (n := 501) 99 this)
  (repeat' (first | (intro _) | (apply And.intro))) <;> grind
end
end Go.Proofs.YtiahkjjfhnfdiaaGreatDoor.Rf
namespace Go.Proofs.YtiahkjjfhnfdiaaGreatDoor.Rf
open Go Go.RowKit Go.Sort Go.Proofs.YtiahkjjfhnfdiaaGreatDoor.Mir
noncomputable section
theorem W1_said (b : Bool) : (norm_said_m b).isSome = true ∧ W1 (gv (norm_said_m b)) := by
  have := norm_said_w b
  refine ⟨this.1, ?_⟩
  rcases this.2 with h | h <;> rw [h] <;> exact W1_t _ (by decide)
theorem edge_W (s : List UInt8) (a b : Node) (hs : s.length ≤ 200) (ha : W1 a) (hb : W1 b) : (node_Map_m [[99, 111, 110, 100, 105, 116, 105, 111, 110], [114, 101, 113, 117, 105, 114, 101, 100], [114, 101, 115, 116, 97, 114, 116]] [txt1 s, a, b]).isSome = true ∧ G 500 (gv (node_Map_m [[99, 111, 110, 100, 105, 116, 105, 111, 110], [114, 101, 113, 117, 105, 114, 101, 100], [114, 101, 115, 116, 97, 114, 116]] [txt1 s, a, b])) := by
  have hw := map_W (ks := [[99, 111, 110, 100, 105, 116, 105, 111, 110], [114, 101, 113, 117, 105, 114, 101, 100], [114, 101, 115, 116, 97, 114, 116]]) (l := [txt1 s, a, b]) (by decide) rfl (by decide) (fun y hy => by
    simp only [List.mem_cons, List.not_mem_nil, or_false] at hy
    rcases hy with rfl | rfl | rfl
    · exact W1_t _ hs
    · exact ha
    · exact hb)
  have := node_Map_z _ _ hw
  refine ⟨this.1, ?_⟩
  rcases this.2 with h | h
  · rw [h]; exact G_z5
  · rw [h]
    have := W_G (d := 492) (by unfold W2 at hw; exact hw)
    exact G_up (d := 492) 8 this
set_option maxHeartbeats 2000000 in
theorem norm_edge_z (x0 : Node) (hp : W2 x0) : Z (norm_edge_m x0) fun r => G 500 r.1 := by
  refine come0 norm_edge_N rfl ?_
  simp only [trA, norm_edge_t]
  have h1 := @W2_k x0 hp
  have h2 := fun f h => norm_field_text_z f [99, 111, 110, 100, 105, 116, 105, 111, 110] [115, 101, 114, 118, 105, 99, 101, 95, 115, 116, 97, 114, 116, 101, 100] ⟨h, by decide⟩
  (repeat' (first | (intro _) | (apply And.intro))) <;> grind [norm_field_truth_z, W1_said, edge_W]
end
end Go.Proofs.YtiahkjjfhnfdiaaGreatDoor.Rf
namespace Go.Proofs.YtiahkjjfhnfdiaaGreatDoor.Rf
open Go Go.RowKit Go.Sort Go.Proofs.YtiahkjjfhnfdiaaGreatDoor.Mir
noncomputable section
theorem norm_Deps_z (x0 : Node) (hp : W2 x0) : Z (norm_Deps_m x0) fun r => G 501 r.1 := by
  refine comeZ norm_Deps_N rfl (fun | .e y0 => y0 = x0 | .h0 v0 v1 v2 v3 v4 v5 v6 => 0 ≤ v2 ∧ v2 ≤ v1 ∧ v1 = (v0.length : Int) ∧ v0.length ≤ 400 ∧ v3 = x0 ∧ v4 = (0 : Int) ∧ v5 = ([] : List UInt8) ∧ v3 = x0 ∧ (x0.kind = 3 → v0.length ≤ x0.kids.length) ∧ TL v0 ∧ Fm v6.n ∧ (v6.n.kids.length : Int) ≤ v2) (fun | .e _ => 10000000000 | .h0 v0 v1 v2 v3 v4 v5 v6 => (v1 - v2).toNat) rfl (by show 10000000000 < _; omega) ?_
  rintro (y0 | ⟨v0, v1, v2, v3, v4, v5, v6⟩) hs
  · cases hs
    simp only [trA, norm_Deps_t]
    (repeat' (first | (intro _) | (apply And.intro))) <;> grind [w64e, maxBytes, maxStr, TL_nil, TL_app, TL_d, TL_f, → W2_z, W2_d, W2_f, → W1_z, W1_G, W2_1, W2_G, Fm_nil, Fm_fit, G_z5, G_z6, G_t5, G_t6, W2_zn, norm_none_w, name_Service_z, norm_edge_z, norm_form_done_z, norm_form_fail_z, norm_form_put_z, norm_members_z, norm_texts_z]
  · dsimp only at hs
    simp only [trA, norm_Deps_t]
    have := @w64e (v2 + 1)
    (repeat' (first | (intro _) | (apply And.intro))) <;> grind [w64e, maxBytes, maxStr, TL_nil, TL_app, TL_d, TL_f, → W2_z, W2_d, W2_f, → W1_z, W1_G, W2_1, W2_G, Fm_nil, Fm_fit, G_z5, G_z6, G_t5, G_t6, W2_zn, norm_none_w, name_Service_z, norm_edge_z, norm_form_done_z, norm_form_fail_z, norm_form_put_z, norm_members_z, norm_texts_z]
end
end Go.Proofs.YtiahkjjfhnfdiaaGreatDoor.Rf
namespace Go.Proofs.YtiahkjjfhnfdiaaGreatDoor.Rf
open Go Go.RowKit Go.Sort Go.Proofs.YtiahkjjfhnfdiaaGreatDoor.Mir
noncomputable section
theorem wg_z {x : Node} (h : G 501 x) : wg 10000 1000 x = true := wg10 (G_up (d := 501) 99 h)
theorem ext_W (x : Node) (h : W1 x) : Z (node_Map_m [[115, 101, 114, 118, 105, 99, 101]] [x]) fun r => W2 r := by
  have hw := map_W (ks := [[115, 101, 114, 118, 105, 99, 101]]) (l := [x]) (by decide) rfl (by decide) (fun y hy => by
    simp only [List.mem_cons, List.not_mem_nil, or_false] at hy
    rw [hy]; exact h)
  have := node_Map_z _ _ hw
  refine ⟨this.1, ?_⟩
  rcases this.2 with h | h
  · rw [h]; exact W2_zn
  · rw [h]; exact hw
theorem dur_figures_z (x0 : List UInt8) (hp : x0.length ≤ 1000000) : Z (dur_figures_m x0) fun r => 0 ≤ r ∧ r ≤ x0.length := by
  refine comeZ dur_figures_N rfl (fun | .e y0 => y0 = x0 | .h0 v0 v1 => v0 = x0 ∧ 0 ≤ v1 ∧ v1 ≤ (x0.length : Int)) (fun | .e _ => 10000000000 | .h0 v0 v1 => ((x0.length : Int) - v1).toNat) rfl (by show 10000000000 < _; omega) ?_
  rintro (y0 | ⟨v0, v1⟩) hs
  · cases hs
    simp only [trA, dur_figures_t]
    (repeat' (first | (intro _) | (apply And.intro))) <;> grind
  · obtain ⟨rfl, h1, h2⟩ := hs
    simp only [trA, dur_figures_t]
    (repeat' (first | (intro _) | (apply And.intro))) <;> grind [w64e]
theorem dur_unit_z (x0 : List UInt8) : Z (dur_unit_m x0) fun r => 0 ≤ r.2.2 ∧ r.2.2 ≤ x0.length ∧ (r.2.2 = 0 ∨ r.2.1 ≠ 0) := by
  refine come0 dur_unit_N rfl ?_
  simp only [trA, dur_unit_t]
  have h0 : (x0 == []) = false → 0 < x0.length := fun h => List.length_pos_iff.2 (by simpa using h)
  (repeat' (first | (intro _) | (apply And.intro))) <;> grind
set_option maxHeartbeats 2000000 in
theorem norm_Extends_z (x0 : Node) (hp : W1 x0) : Z (norm_Extends_m x0) fun r => G 501 r.1 := by
  refine come0 norm_Extends_N rfl ?_
  simp only [trA, norm_Extends_t]
  have key : ∀ y, W2 y → G 501 (sortP 1000 y) := fun y h => G_sort 1000 501 y (W2_G h)
  have key2 : ∀ y, W2 y → wg 10000 1000 y = true := fun y h => wg_z (W2_G h)
  have h0 := W2_1 hp
  have h1 := ext_W x0 hp
  have step : ∀ y : Node, W2 y → (norm_field_text_m ⟨y, (y.keys.length : Int), y.kind != 3⟩ [115, 101, 114, 118, 105, 99, 101] []).isSome = true ∧ (gv (norm_field_text_m ⟨y, (y.keys.length : Int), y.kind != 3⟩ [115, 101, 114, 118, 105, 99, 101] [])).1.n = y := fun y h => by
    have := norm_field_text_z ⟨y, (y.keys.length : Int), y.kind != 3⟩ [115, 101, 114, 118, 105, 99, 101] [] ⟨h, by decide⟩
    exact ⟨this.1, this.2.1⟩
  have step2 : ∀ f : field, W2 f.n → (norm_field_text_m ⟨f.n, f.left, f.bad⟩ [102, 105, 108, 101] [120]).isSome = true := fun f h => (norm_field_text_z ⟨f.n, f.left, f.bad⟩ [102, 105, 108, 101] [120] ⟨h, by decide⟩).1
  refine ⟨fun _ => ?_, fun _ => ?_⟩
  · refine ⟨h1.1, ?_⟩
    have h1 := h1.2
    generalize gv (node_Map_m _ _) = y at h1 ⊢
    have a1 := step y h1
    refine ⟨a1.1, ?_⟩
    generalize gv (norm_field_text_m _ _ _) = p at a1 ⊢
    refine ⟨step2 p.1 (by rw [a1.2]; exact h1), ?_⟩
    (repeat' (first | (intro _) | (apply And.intro))) <;> grind [name_Service_z, norm_none_w, G_z6]
  · have a1 := step x0 h0
    refine ⟨a1.1, ?_⟩
    generalize gv (norm_field_text_m _ _ _) = p at a1 ⊢
    refine ⟨step2 p.1 (by rw [a1.2]; exact h0), ?_⟩
    (repeat' (first | (intro _) | (apply And.intro))) <;> grind [name_Service_z, norm_none_w, G_z6]
set_option maxHeartbeats 2000000 in
theorem dur_Parse_z (x0 : List UInt8) (hp : x0.length ≤ 1000000) : Z (dur_Parse_m x0) fun _ => True := by
  refine comeZ dur_Parse_N rfl (fun | .e y0 => y0 = x0 | .h0 v0 v1 v2 v3 v4 => v0 = x0 ∧ 0 ≤ v4 ∧ v4 ≤ (x0.length : Int)) (fun | .e _ => 10000000000 | .h0 v0 v1 v2 v3 v4 => ((x0.length : Int) - v4).toNat) rfl (by show 10000000000 < _; omega) ?_
  rintro (y0 | ⟨v0, v1, v2, v3, v4⟩) hs
  · cases hs
    simp only [trA, dur_Parse_t]
    (repeat' (first | (intro _) | (apply And.intro))) <;> grind
  · obtain ⟨rfl, h1, h2⟩ := hs
    simp only [trA, dur_Parse_t]
    have h3 := cut_z v0 v4 (v0.length : Int) ⟨h1, h2, Int.le_refl _⟩
    have h4 : (dur_figures_m (cut v0 v4 (v0.length : Int))).isSome = true ∧ 0 ≤ gv (dur_figures_m (cut v0 v4 (v0.length : Int))) ∧ gv (dur_figures_m (cut v0 v4 (v0.length : Int))) ≤ (cut v0 v4 (v0.length : Int)).length := dur_figures_z (cut v0 v4 (v0.length : Int)) (by omega)
    generalize gv (dur_figures_m (cut v0 v4 (v0.length : Int))) = k at h4 ⊢
    have h5 : w64 (v4 + k) = v4 + k := w64_id (by omega) (by omega)
    rw [h5]
    have h6 := cut_z v0 v4 (v4 + k) ⟨h1, by omega, by omega⟩
    have h7 := cut_z v0 (v4 + k) (v0.length : Int) ⟨by omega, by omega, by omega⟩
    have h8 : (dur_unit_m (cut v0 (v4 + k) (v0.length : Int))).isSome = true ∧ 0 ≤ (gv (dur_unit_m (cut v0 (v4 + k) (v0.length : Int)))).2.2 ∧ (gv (dur_unit_m (cut v0 (v4 + k) (v0.length : Int)))).2.2 ≤ (cut v0 (v4 + k) (v0.length : Int)).length ∧ ((gv (dur_unit_m (cut v0 (v4 + k) (v0.length : Int)))).2.2 = 0 ∨ (gv (dur_unit_m (cut v0 (v4 + k) (v0.length : Int)))).2.1 ≠ 0) := dur_unit_z (cut v0 (v4 + k) (v0.length : Int))
    have h9 := fun m => digit_Count_z (cut v0 v4 (v4 + k)) m (by omega)
    generalize gv (dur_unit_m (cut v0 (v4 + k) (v0.length : Int))) = u at h8 ⊢
    have h10 : w64 (v4 + k + u.2.2) = v4 + k + u.2.2 := w64_id (by omega) (by omega)
    rw [h10]
    (repeat' (first | (intro _) | (apply And.intro))) <;> grind
end
end Go.Proofs.YtiahkjjfhnfdiaaGreatDoor.Rf
namespace Go.Proofs.YtiahkjjfhnfdiaaGreatDoor.Rf
open Go Go.RowKit Go.Sort Go.Proofs.YtiahkjjfhnfdiaaGreatDoor.Mir
noncomputable section
theorem rep1_z (c : UInt8) (new : List UInt8) (h : new.length = 4) : ∀ s : List UInt8, (rep1 c new s).length ≤ 4 * s.length
  | [] => Nat.zero_le _
  | b :: t => by
    have := rep1_z c new h t
    rw [rep1_cons]
    split <;> simp only [List.length_append, List.length_cons, h] <;> omega
theorem okRe_z (s : List UInt8) (h : s.length ≤ 1000000) : okRe s [39] [39, 92, 39, 39] (-1) = true := by
  unfold okRe
  rw [decide_eq_true h]
  rfl
theorem reV_z (s : List UInt8) : (reV s [39] [39, 92, 39, 39] (-1)).length ≤ 4 * s.length := rep1_z _ _ rfl s
theorem join_z (sep : List UInt8) (M : Nat) : ∀ l : List (List UInt8), (∀ s ∈ l, s.length ≤ M) → (Lib.join l sep).length ≤ l.length * (M + sep.length)
  | [], _ => by simp [Lib.join, List.intercalate]
  | [a], h => by
    have := h a List.mem_cons_self
    simp [Lib.join, List.intercalate]; omega
  | a :: b :: t, h => by
    have h1 := h a List.mem_cons_self
    have h2 := join_z sep M (b :: t) fun s hs => h s (List.mem_cons_of_mem _ hs)
    have e : Lib.join (a :: b :: t) sep = a ++ sep ++ Lib.join (b :: t) sep := by simp [Lib.join, List.intercalate, List.intersperse]
    rw [e, List.length_append, List.length_append, List.length_cons (a := a), Nat.succ_mul]
    omega
def TJ (l : List (List UInt8)) : Prop := ∀ s ∈ l, s.length ≤ 1000
theorem TJ_nil : TJ [] := fun s h => by cases h
theorem TJ_app {l : List (List UInt8)} {s : List UInt8} (h : TJ l) (hs : s.length ≤ 1000) : TJ (l ++ [s]) := fun x hx => by
  rcases List.mem_append.1 hx with hx | hx
  · exact h x hx
  · rw [List.mem_singleton.1 hx]; exact hs
theorem TJ_join {l : List (List UInt8)} (c : UInt8) (h : TJ l) (hl : l.length ≤ 400) : okJn l [c] = true := by
  have := join_z [c] 1000 l h
  have h2 : l.length * (1000 + [c].length) ≤ 400 * 1001 := Nat.mul_le_mul hl (by simp)
  unfold okJn
  rw [decide_eq_true (show l.length ≤ 1000000 by omega), decide_eq_true (show (Lib.join l [c]).length ≤ 1000000000 by omega)]
  rfl
theorem TL_cut {l : List (List UInt8)} (h : TL l) (a b : Int) : TL (cut l a b) := by
  unfold TL at *
  intro s hs
  exact h s (List.mem_of_mem_drop (List.mem_of_mem_take hs))
attribute [irreducible] TJ
theorem word_Bare_z (x0 : List UInt8) (hp : x0.length ≤ 1000000) : Z (word_Bare_m x0) fun _ => True := by
  refine comeZ word_Bare_N rfl (fun | .e y0 => y0 = x0 | .h0 v0 v1 v2 => 0 ≤ v2 ∧ v2 ≤ v1 ∧ v1 = (v0.length : Int) ∧ v0 = x0) (fun | .e _ => 10000000000 | .h0 v0 v1 v2 => (v1 - v2).toNat) rfl (by show 10000000000 < _; omega) ?_
  rintro (y0 | ⟨v0, v1, v2⟩) hs
  · cases hs
    simp only [trA, word_Bare_t]
    (repeat' (first | (intro _) | (apply And.intro))) <;> grind
  · dsimp only at hs
    simp only [trA, word_Bare_t]
    have := @w64e (v2 + 1)
    (repeat' (first | (intro _) | (apply And.intro))) <;> grind
theorem word_Join_z (x0 : List (List UInt8)) (hp : TL x0 ∧ x0.length ≤ 400) : Z (word_Join_m x0) fun _ => True := by
  refine comeZ word_Join_N rfl (fun | .e y0 => y0 = x0 | .h0 v0 v1 v2 v3 => 0 ≤ v3 ∧ v3 ≤ v2 ∧ v2 = (v1.length : Int) ∧ v1 = x0 ∧ TJ v0 ∧ (v0.length : Int) = v3) (fun | .e _ => 10000000000 | .h0 v0 v1 v2 v3 => (v2 - v3).toNat) rfl (by show 10000000000 < _; omega) ?_
  rintro (y0 | ⟨v0, v1, v2, v3⟩) hs
  · cases hs
    simp only [trA, word_Join_t]
    (repeat' (first | (intro _) | (apply And.intro))) <;> grind [TJ_nil]
  · dsimp only at hs
    simp only [trA, word_Join_t, maxBytes, maxStr, List.length_append, List.length_cons, List.length_nil]
    have h1 := @w64e (v3 + 1)
    have h2 := TL_d hp.1 v3.toNat
    have h3 := okRe_z (List.getD x0 v3.toNat Df.d) (by omega)
    have h4 := reV_z (List.getD x0 v3.toNat Df.d)
    have h5 := word_Bare_z (List.getD x0 v3.toNat Df.d) (by omega)
    have h6 : (v0 ++ [[39] ++ reV (List.getD x0 v3.toNat Df.d) [39] [39, 92, 39, 39] (-1) ++ [39]]) = v0 ++ [[39] ++ reV (List.getD x0 v3.toNat Df.d) [39] [39, 92, 39, 39] (-1) ++ [39]] := rfl
    have h7 := fun s => @TJ_app v0 s
    have h8 := @TJ_join v0 32
    (repeat' (first | (intro _) | (apply And.intro))) <;> grind [List.length_append, List.length_cons, List.length_nil]
theorem norm_test_z (x0 : Node) (hp : W1 x0) : Z (norm_test_m x0) fun _ => True := by
  refine come0 norm_test_N rfl ?_
  simp only [trA, norm_test_t]
  have h0 := W2_1 hp
  have h1 := norm_texts_z x0 h0
  have h2 := W2_z h0
  have h3 := fun a b => TL_cut h1.2.1 a b
  have h4 := fun a b => cut_z (gv (norm_texts_m x0)).1 a b
  (repeat' (first | (intro _) | (apply And.intro))) <;> grind [word_Join_z]
end
end Go.Proofs.YtiahkjjfhnfdiaaGreatDoor.Rf
namespace Go.Proofs.YtiahkjjfhnfdiaaGreatDoor.Rf
open Go Go.RowKit Go.Sort Go.Proofs.YtiahkjjfhnfdiaaGreatDoor.Mir
noncomputable section
theorem w64r (n : Int) : -9223372036854775808 ≤ w64 n ∧ w64 n ≤ 9223372036854775807 := by
  have e : w64 n = (if decide (n % 18446744073709551616 ≥ 9223372036854775808) = true then n % 18446744073709551616 - 18446744073709551616 else n % 18446744073709551616) := rfl
  have h1 := Int.emod_nonneg n (b := 18446744073709551616) (by decide)
  have h2 := Int.emod_lt_of_pos n (b := 18446744073709551616) (by decide)
  rw [e]
  split <;> rename_i h <;> rw [decide_eq_true_eq] at h <;> omega
def Rg (n : Int) : Prop := -9223372036854775808 ≤ n ∧ n ≤ 9223372036854775807
theorem digit_whole_y (x0 : List UInt8) (x1 : Int) (hp : x0.length ≤ 1000000) : Z (digit_whole_m x0 x1) fun r => Rg r.1 := by
  refine comeZ digit_whole_N rfl (fun | .e y0 y1 => y0 = x0 ∧ y1 = x1 | .h0 v0 v1 v2 v3 v4 v5 => 0 ≤ v5 ∧ v5 ≤ v4 ∧ v4 = (v0.length : Int) ∧ v0.length ≤ 1000000 ∧ Rg v2) (fun | .e _ _ => 10000000000 | .h0 v0 v1 v2 v3 v4 v5 => (v4 - v5).toNat) ⟨rfl, rfl⟩ (by show 10000000000 < _; omega) ?_
  have hw : ∀ n, Rg (w64 n) := w64r
  have h0 : Rg 0 := ⟨by decide, by decide⟩
  rintro (⟨y0, y1⟩ | ⟨v0, v1, v2, v3, v4, v5⟩) hs
  · obtain ⟨rfl, rfl⟩ := hs
    simp only [trA, digit_whole_t]
    all_goals grind
  · dsimp only at hs
    simp only [trA, digit_whole_t]
    have := @w64e (v5 + 1)
    all_goals grind
theorem digit_Count_y (x0 : List UInt8) (x1 : Int) (hp : x0.length ≤ 1000000) : Z (digit_Count_m x0 x1) fun r => Rg r.1 := by
  refine come0 digit_Count_N rfl ?_
  simp only [trA, digit_Count_t]
  have h0 : Rg 0 := ⟨by decide, by decide⟩
  all_goals grind [digit_whole_y]
theorem norm_field_count_y (f : field) (k : List UInt8) (h : W2 f.n) : Z (norm_field_count_m f k) fun r => r.1.n = f.n ∧ -9223372036854775808 ≤ r.2 ∧ r.2 ≤ 9223372036854775807 := by
  refine come0 norm_field_count_N rfl ?_
  simp only [trA, norm_field_count_t]
  have h1 := W2_fit h
  have h2 : ∀ x n, x.length ≤ 1000000 → (digit_Count_m x n).isSome = true ∧ (-9223372036854775808 ≤ (gv (digit_Count_m x n)).1 ∧ (gv (digit_Count_m x n)).1 ≤ 9223372036854775807) := fun x n h => digit_Count_y x n h
  grind [norm_field_text_z]
theorem tdiv_z (x L : Int) (h : 0 ≤ x ∧ x ≤ 1099511627776) (hL : 1 ≤ L ∧ L ≤ 3600000) : w64 (Int.tdiv x L) = x / L ∧ 0 ≤ x / L ∧ x / L ≤ x ∧ w64 (x / L * L) = x / L * L ∧ 0 ≤ x / L * L ∧ x / L * L ≤ x ∧ w64 (x - x / L * L) = x - x / L * L := by
  have h1 : 0 ≤ x / L := Int.ediv_nonneg h.1 (by omega)
  have h2 : x / L * L ≤ x := Int.ediv_mul_le x (by omega)
  have h3 : x / L ≤ x / L * L := by
    have := Int.mul_le_mul_of_nonneg_left hL.1 h1
    omega
  have h4 : 0 ≤ x / L * L := by omega
  refine ⟨?_, h1, by omega, w64_id (by omega) (by omega), h4, h2, w64_id (by omega) (by omega)⟩
  rw [Int.tdiv_eq_ediv_of_nonneg h.1]
  exact w64_id (by omega) (by omega)
theorem dur_Text_z (x0 : Int) : Z (dur_Text_m x0) fun _ => True := by
  refine comeZ dur_Text_N rfl (fun | .e y0 => y0 = x0 | .h0 v0 v1 v2 v3 => (0 ≤ v0 ∧ v0 ≤ 1099511627776) ∧ (0 ≤ v3 ∧ v3 ≤ 4) ∧ (v1.length : Int) ≤ 30 * v3 ∧ ∀ i : Int, 0 ≤ i → i < 4 → ∃ L nm, List.getD ([v2.e0, v2.e1, v2.e2, v2.e3] : List St120) (Int.toNat i) (dflt Ty.st120) = ⟨L, nm⟩ ∧ (1 ≤ L ∧ L ≤ 3600000) ∧ nm.length ≤ 2) (fun | .e _ => 10000000000 | .h0 v0 v1 v2 v3 => (4 - v3).toNat) rfl (by show 10000000000 < _; omega) ?_
  rintro (y0 | ⟨v0, v1, v2, v3⟩) hs
  · cases hs
    simp only [trA, dur_Text_t]
    refine ⟨fun _ => trivial, fun h => ⟨fun _ => trivial, fun h' => ⟨⟨by grind, ⟨by omega, by omega⟩, by decide, ?_⟩, by decide⟩⟩⟩
    intro i h1 h2
    have : i = 0 ∨ i = 1 ∨ i = 2 ∨ i = 3 := by omega
    rcases this with rfl | rfl | rfl | rfl
    · exact ⟨3600000, [104], rfl, by decide⟩
    · exact ⟨60000, [109], rfl, by decide⟩
    · exact ⟨1000, [115], rfl, by decide⟩
    · exact ⟨1, [109, 115], rfl, by decide⟩
  · obtain ⟨h1, h2, h3, h4⟩ := hs
    simp only [trA, dur_Text_t, maxStr, List.length_append]
    refine ⟨fun h => ?_, fun _ => trivial⟩
    obtain ⟨L, nm, e, hL, hn⟩ := h4 v3 h2.1 h
    rw [e]
    obtain ⟨a1, a2, a3, a4, a5, a6, a7⟩ := tdiv_z v0 L h1 hL
    dsimp only
    rw [a1, a4, a7]
    have h5 := @w64e (v3 + 1)
    have h6 := digit_Text_z (v0 / L) (by omega)
    rw [h5 (by omega)]
    (repeat' (first | (intro _) | (apply And.intro))) <;> grind
set_option maxHeartbeats 4000000 in
theorem norm_Health_z (x0 : Node) (hp : W2 x0) : Z (norm_Health_m x0) fun r => G 501 r.1 := by
  refine comeZ norm_Health_N rfl (fun | .e y0 => y0 = x0 | .h0 v0 v1 v2 v3 v4 v5 v6 v7 v8 => 0 ≤ v3 ∧ v3 ≤ v2 ∧ v2 = (v1.length : Int) ∧ v1.length ≤ 2 ∧ v4 = x0 ∧ v8.n = x0 ∧ Fm v7.n ∧ (v7.n.kids.length : Int) ≤ v3 + 1) (fun | .e _ => 10000000000 | .h0 v0 v1 v2 v3 v4 v5 v6 v7 v8 => (v2 - v3).toNat) rfl (by show 10000000000 < _; omega) ?_
  have k1 := W2_fit hp
  have k2 := W2_g hp
  rintro (y0 | ⟨v0, v1, v2, v3, v4, v5, v6, v7, ⟨n8, l8, b8⟩⟩) hs
  · cases hs
    simp only [trA, norm_Health_t]
    have h1 := fun l b => norm_field_truth_z ⟨x0, l, b⟩ [100, 105, 115, 97, 98, 108, 101] false hp
    (repeat' (first | (intro _) | (apply And.intro))) <;> grind [norm_test_z, norm_form_put_z, G_t5, Fm_nil]
  · obtain ⟨h1, h2, h3, h4, rfl, h6, h7, h8⟩ := hs
    simp only [trA, norm_Health_t]
    have g1 := @w64e (v3 + 1)
    have h6 : n8 = v4 := h6
    subst h6
    have g2 := fun k l b => norm_field_text_z ⟨n8, l, b⟩ k [49, 115] ⟨hp, by decide⟩
    have g3 := fun l b => norm_field_count_y ⟨n8, l, b⟩ [114, 101, 116, 114, 105, 101, 115] hp
    have g4 := norm_said_z true
    (repeat' (first | (intro _) | (apply And.intro))) <;> grind [dur_Parse_z, dur_Text_z, norm_form_put_z, norm_form_done_z, digit_Text_z, norm_none_w, G_t5, G_z6, Fm_nil]
end
end Go.Proofs.YtiahkjjfhnfdiaaGreatDoor.Rf
namespace Go.Proofs.YtiahkjjfhnfdiaaGreatDoor.Rf
open Go Go.RowKit Go.Sort Go.Proofs.YtiahkjjfhnfdiaaGreatDoor.Mir
noncomputable section
def Fq (d : Nat) (n : Node) : Prop := (n.kind = 3 ∧ n.keys.length = n.kids.length) ∧ ∀ y ∈ n.kids, G d y
theorem Fq_nil (d : Nat) : Fq d ⟨3, [], [], []⟩ := ⟨⟨rfl, rfl⟩, fun y h => by cases h⟩
theorem Fq_with {d : Nat} {n : Node} (k : List UInt8) {v : Node} (h : Fq d n) (hv : G d v) : Fq d (withP n k v) ∧ (withP n k v).kids.length ≤ n.kids.length + 1 := by
  obtain ⟨⟨h1, h2⟩, h3⟩ := h
  unfold withP
  rw [show (bif n.kind != 3 then n.kind != 0 else false) = false by rw [h1]; rfl, cond_false]
  cases decide (0 ≤ index n.keys k) with
  | true =>
    rw [cond_true]
    refine ⟨⟨⟨rfl, by simp [h2]⟩, fun y hy => ?_⟩, by simp⟩
    rcases mem_set hy with hy | rfl
    · exact h3 y hy
    · exact hv
  | false =>
    rw [cond_false]
    refine ⟨⟨⟨rfl, by simp [h2]⟩, fun y hy => ?_⟩, by simp⟩
    rcases List.mem_append.1 hy with hy | hy
    · exact h3 y hy
    · rw [List.mem_singleton.1 hy]; exact hv
theorem Fq_ok {d : Nat} {n : Node} (k : List UInt8) (v : Node) (h : Fq d n) (hl : n.kids.length ≤ 1000) : okWp n k v = true :=
  fit_iff.2 ⟨⟨by have := h.1.2; show n.keys.length ≤ _; omega, by show n.kids.length ≤ _; omega⟩, fun _ => h.1.2⟩
theorem Fq_G {d : Nat} {n : Node} (h : Fq d n) (hl : n.kids.length ≤ 1000) : G (d + 1) n := by
  unfold Fq G at *
  exact wg_iff.2 ⟨by have := h.1.2; omega, hl, fun _ => h.1.2, h.2⟩
theorem Fq_sort {d : Nat} {n : Node} (h : Fq d n) (hl : n.kids.length ≤ 1000) (hd : d < 599) : wg 10000 1000 n = true ∧ G (d + 1) (sortP 1000 n) := by
  have h1 := Fq_G h hl
  refine ⟨?_, G_sort 1000 (d + 1) n h1⟩
  have := G_up (d := d + 1) (599 - d) h1
  rw [show d + 1 + (599 - d) = 600 by omega] at this
  exact wg10 this
def F1 (n : Node) : Prop := Fq 501 n
theorem F1_nil : F1 ⟨3, [], [], []⟩ := Fq_nil 501
theorem F1_with {n : Node} (k : List UInt8) {v : Node} (h : F1 n) (hv : G 501 v) : F1 (withP n k v) ∧ (withP n k v).kids.length ≤ n.kids.length + 1 := Fq_with k h hv
theorem F1_ok {n : Node} (k : List UInt8) (v : Node) (h : F1 n) (hl : n.kids.length ≤ 1000) : okWp n k v = true := Fq_ok k v h hl
theorem F1_sort {n : Node} (h : F1 n) (hl : n.kids.length ≤ 1000) : wg 10000 1000 n = true ∧ G 502 (sortP 1000 n) := Fq_sort h hl (by decide)
def H1 (n : Node) : Prop := (n.keys.length ≤ 200 ∧ (n.kind = 3 → n.keys.length = n.kids.length) ∧ TL n.keys) ∧ ∀ i : Nat, W1 (n.kids.getD i (Df.d : Node))
theorem H1_z {n : Node} (h : H1 n) : n.keys.length ≤ 200 ∧ (n.kind = 3 → n.keys.length = n.kids.length) ∧ TL n.keys := h.1
theorem H1_d {n : Node} (h : H1 n) (i : Nat) : W1 (n.kids.getD i (Df.d : Node)) := h.2 i
attribute [irreducible] F1 H1
theorem G_z2 : G 502 ⟨0, [], [], []⟩ := G_zn 501
theorem G_n2 : G 502 ⟨3, [], [], []⟩ := by unfold G; exact wg_iff.2 ⟨Nat.zero_le _, Nat.zero_le _, (fun _ => rfl), (fun y hy => by cases hy)⟩
set_option maxHeartbeats 8000000 in
theorem schema_each__schema_Service_1_z (x0 : Node) (hp : H1 x0) : Z (schema_each__schema_Service_1_m x0) fun r => G 502 r.1 ∧ r.2.1.length ≤ 200 := by
  refine comeZ schema_each__schema_Service_1_N rfl (fun | .e y0 => y0 = x0 | .h0 v0 v1 v2 v3 v4 v5 v6 => 0 ≤ v2 ∧ v2 ≤ v1 ∧ v1 = (v0.length : Int) ∧ v0 = x0.keys ∧ v3 = x0 ∧ x0.kind = 3 ∧ F1 v6 ∧ (v6.kids.length : Int) ≤ v2) (fun | .e _ => 10000000000 | .h0 v0 v1 v2 v3 v4 v5 v6 => (v1 - v2).toNat) rfl (by show 10000000000 < _; omega) ?_
  have h0 := H1_z hp
  rintro (y0 | ⟨v0, v1, v2, v3, v4, v5, v6⟩) hs
  · cases hs
    simp only [trA, schema_each__schema_Service_1_t]
    (repeat' (first | (intro _) | (apply And.intro))) <;> grind [F1_nil, G_z2, G_n2]
  · obtain ⟨h1, h2, h3, rfl, rfl, h6, h7, h8⟩ := hs
    have a1 := @w64e (v2 + 1)
    have a2 := H1_d hp v2.toNat
    have a3 := W2_1 a2
    have a4 := TL_d h0.2.2 v2.toNat
    have a5 := F1_sort h7 (by omega)
    have a6 := fun k v => F1_ok k v h7 (by omega)
    have a7 := fun k v h => @F1_with v6 k v h7 h
    simp only [trA, schema_each__schema_Service_1_t]
    generalize v3.kids.getD v2.toNat Df.d = y2 at a2 a3 ⊢
    generalize v3.keys.getD v2.toNat Df.d = y1 at a4 ⊢
    have a8 := W2_G a3
    (repeat' (first | (intro _) | (apply And.intro))) <;> grind [schema_foreign_z, G_z2, norm_Line_z, norm_Words_z, norm_Pairs_z, norm_Ports_z, norm_Mounts_z, norm_Set_z, norm_Deps_z, norm_Extends_z, norm_Health_z, norm_Restart_z, norm_Count_z, norm_Cpus_z, norm_Bytes_z]
end
end Go.Proofs.YtiahkjjfhnfdiaaGreatDoor.Rf
namespace Go.Proofs.YtiahkjjfhnfdiaaGreatDoor.Rf
open Go Go.RowKit Go.Sort Go.Proofs.YtiahkjjfhnfdiaaGreatDoor.Mir
noncomputable section
def F2 (n : Node) : Prop := Fq 502 n
theorem F2_nil : F2 ⟨3, [], [], []⟩ := Fq_nil 502
theorem F2_with {n : Node} (k : List UInt8) {v : Node} (h : F2 n) (hv : G 502 v) : F2 (withP n k v) ∧ (withP n k v).kids.length ≤ n.kids.length + 1 := Fq_with k h hv
theorem F2_ok {n : Node} (k : List UInt8) (v : Node) (h : F2 n) (hl : n.kids.length ≤ 1000) : okWp n k v = true := Fq_ok k v h hl
theorem F2_sort {n : Node} (h : F2 n) (hl : n.kids.length ≤ 1000) : wg 10000 1000 n = true ∧ G 503 (sortP 1000 n) := Fq_sort h hl (by decide)
def F3 (n : Node) : Prop := Fq 503 n
theorem F3_nil : F3 ⟨3, [], [], []⟩ := Fq_nil 503
theorem F3_with {n : Node} (k : List UInt8) {v : Node} (h : F3 n) (hv : G 503 v) : F3 (withP n k v) ∧ (withP n k v).kids.length ≤ n.kids.length + 1 := Fq_with k h hv
theorem F3_ok {n : Node} (k : List UInt8) (v : Node) (h : F3 n) (hl : n.kids.length ≤ 1000) : okWp n k v = true := Fq_ok k v h hl
theorem F3_sort {n : Node} (h : F3 n) (hl : n.kids.length ≤ 1000) : wg 10000 1000 n = true ∧ G 504 (sortP 1000 n) := Fq_sort h hl (by decide)
def H2 (n : Node) : Prop := (n.keys.length ≤ 200 ∧ (n.kind = 3 → n.keys.length = n.kids.length) ∧ TL n.keys) ∧ ∀ i : Nat, H1 (n.kids.getD i (Df.d : Node))
def H3 (n : Node) : Prop := (n.keys.length ≤ 200 ∧ (n.kind = 3 → n.keys.length = n.kids.length) ∧ TL n.keys) ∧ ∀ i : Nat, W1 (n.kids.getD i (Df.d : Node)) ∧ H2 (n.kids.getD i (Df.d : Node))
attribute [irreducible] F2 F3 H2 H3
theorem H2_z {n : Node} (h : H2 n) : n.keys.length ≤ 200 ∧ (n.kind = 3 → n.keys.length = n.kids.length) ∧ TL n.keys := by unfold H2 at h; exact h.1
theorem H2_d {n : Node} (h : H2 n) (i : Nat) : H1 (n.kids.getD i (Df.d : Node)) := by unfold H2 at h; exact h.2 i
theorem H3_z {n : Node} (h : H3 n) : n.keys.length ≤ 200 ∧ (n.kind = 3 → n.keys.length = n.kids.length) ∧ TL n.keys := by unfold H3 at h; exact h.1
theorem H3_d {n : Node} (h : H3 n) (i : Nat) : W1 (n.kids.getD i (Df.d : Node)) ∧ H2 (n.kids.getD i (Df.d : Node)) := by unfold H3 at h; exact h.2 i
theorem G_z3 : G 503 ⟨0, [], [], []⟩ := G_zn 502
theorem G_n3 : G 503 ⟨3, [], [], []⟩ := by unfold G; exact wg_iff.2 ⟨Nat.zero_le _, Nat.zero_le _, (fun _ => rfl), (fun y hy => by cases hy)⟩
theorem G_z4 : G 504 ⟨0, [], [], []⟩ := G_zn 503
theorem G_n4 : G 504 ⟨3, [], [], []⟩ := by unfold G; exact wg_iff.2 ⟨Nat.zero_le _, Nat.zero_le _, (fun _ => rfl), (fun y hy => by cases hy)⟩
theorem schema_Service_z (x0 : Node) (hp : H1 x0) : Z (schema_Service_m x0) fun r => G 502 r.1 ∧ r.2.1.length ≤ 200 := by
  refine come0 schema_Service_N rfl ?_
  simp only [trA, schema_Service_t]
  (repeat' (first | (intro _) | (apply And.intro))) <;> grind [schema_each__schema_Service_1_z]
theorem TJ_d {l : List (List UInt8)} (h : TJ l) (i : Nat) : (l.getD i (Df.d : List UInt8)).length ≤ 1000 := by
  unfold TJ at h
  rw [List.getD]
  cases e : l[i]? with
  | none => exact Nat.zero_le _
  | some x => exact h x (List.mem_of_getElem? e)
theorem schema_path_z (x0 : List (List UInt8)) (hp : TJ x0 ∧ x0.length ≤ 400) : Z (schema_path_m x0) fun _ => True := by
  refine comeZ schema_path_N rfl (fun | .e y0 => y0 = x0 | .h0 v0 v1 v2 v3 => 0 ≤ v3 ∧ v3 ≤ v2 ∧ v2 = (v1.length : Int) ∧ v1 = x0 ∧ TJ v0 ∧ (v0.length : Int) ≤ v3) (fun | .e _ => 10000000000 | .h0 v0 v1 v2 v3 => (v2 - v3).toNat) rfl (by show 10000000000 < _; omega) ?_
  rintro (y0 | ⟨v0, v1, v2, v3⟩) hs
  · cases hs
    simp only [trA, schema_path_t]
    (repeat' (first | (intro _) | (apply And.intro))) <;> grind [TJ_nil]
  · dsimp only at hs
    simp only [trA, schema_path_t, maxBytes, maxStr, List.length_append, List.length_cons, List.length_nil]
    have h1 := @w64e (v3 + 1)
    have h2 := TJ_d hp.1 v3.toNat
    have h7 := fun s => @TJ_app v0 s
    have h8 := @TJ_join v0 46
    (repeat' (first | (intro _) | (apply And.intro))) <;> grind [List.length_append, List.length_cons, List.length_nil]
theorem TJ_2 (a b : List UInt8) (h : a.length ≤ 1000 ∧ b.length ≤ 1000) : TJ [a, b] := by
  unfold TJ
  intro s hs
  simp only [List.mem_cons, List.not_mem_nil, or_false] at hs
  rcases hs with rfl | rfl
  · exact h.1
  · exact h.2
theorem TJ_3 (a b c : List UInt8) (h : a.length ≤ 1000 ∧ b.length ≤ 1000 ∧ c.length ≤ 1000) : TJ [a, b, c] := by
  unfold TJ
  intro s hs
  simp only [List.mem_cons, List.not_mem_nil, or_false] at hs
  rcases hs with rfl | rfl | rfl
  · exact h.1
  · exact h.2.1
  · exact h.2.2
set_option maxHeartbeats 2000000 in
theorem schema_each__schema_services_1_z (x0 : Node) (hp : H2 x0) : Z (schema_each__schema_services_1_m x0) fun r => G 503 r.1 := by
  refine comeZ schema_each__schema_services_1_N rfl (fun | .e y0 => y0 = x0 | .h0 v0 v1 v2 v3 v4 v5 v6 => 0 ≤ v2 ∧ v2 ≤ v1 ∧ v1 = (v0.length : Int) ∧ v0 = x0.keys ∧ v3 = x0 ∧ x0.kind = 3 ∧ F2 v6 ∧ (v6.kids.length : Int) ≤ v2) (fun | .e _ => 10000000000 | .h0 v0 v1 v2 v3 v4 v5 v6 => (v1 - v2).toNat) rfl (by show 10000000000 < _; omega) ?_
  have h0 := H2_z hp
  rintro (y0 | ⟨v0, v1, v2, v3, v4, v5, v6⟩) hs
  · cases hs
    simp only [trA, schema_each__schema_services_1_t]
    (repeat' (first | (intro _) | (apply And.intro))) <;> grind [F2_nil, G_z3, G_n3]
  · obtain ⟨h1, h2, h3, rfl, rfl, h6, h7, h8⟩ := hs
    have a1 := @w64e (v2 + 1)
    have a2 := H2_d hp v2.toNat
    have a4 := TL_d h0.2.2 v2.toNat
    have a5 := F2_sort h7 (by omega)
    have a6 := fun k v => F2_ok k v h7 (by omega)
    have a7 := fun k v h => @F2_with v6 k v h7 h
    simp only [trA, schema_each__schema_services_1_t]
    generalize v3.kids.getD v2.toNat Df.d = y2 at a2 ⊢
    generalize v3.keys.getD v2.toNat Df.d = y1 at a4 ⊢
    have a8 := schema_Service_z y2 a2
    have a9 := schema_path_z [[115, 101, 114, 118, 105, 99, 101, 115], y1] ⟨TJ_2 _ _ ⟨by decide, by omega⟩, by simp⟩
    have a10 := schema_path_z [[115, 101, 114, 118, 105, 99, 101, 115], y1, (gv (schema_Service_m y2)).2.1] ⟨TJ_3 _ _ _ ⟨by decide, by omega, by have := a8.2.2; omega⟩, by simp⟩
    (repeat' (first | (intro _) | (apply And.intro))) <;> grind [G_z3, name_Service_z]
theorem schema_services_z (x0 : Node) (hp : H2 x0) : Z (schema_services_m x0) fun r => G 503 r.1 := by
  refine come0 schema_services_N rfl ?_
  simp only [trA, schema_services_t]
  (repeat' (first | (intro _) | (apply And.intro))) <;> grind [schema_each__schema_services_1_z, G_z3]
theorem W1_up {n : Node} (h : W1 n) : G 503 n := G_up (d := 501) 2 (W2_G (W2_1 h))
theorem G_51 {n : Node} (h : G 501 n) : G 503 n := G_up (d := 501) 2 h
set_option maxHeartbeats 4000000 in
theorem schema_each__schema_File_1_z (x0 : Node) (hp : H3 x0) : Z (schema_each__schema_File_1_m x0) fun r => G 504 r.1 := by
  refine comeZ schema_each__schema_File_1_N rfl (fun | .e y0 => y0 = x0 | .h0 v0 v1 v2 v3 v4 v5 v6 => 0 ≤ v2 ∧ v2 ≤ v1 ∧ v1 = (v0.length : Int) ∧ v0 = x0.keys ∧ v3 = x0 ∧ x0.kind = 3 ∧ F3 v6 ∧ (v6.kids.length : Int) ≤ v2) (fun | .e _ => 10000000000 | .h0 v0 v1 v2 v3 v4 v5 v6 => (v1 - v2).toNat) rfl (by show 10000000000 < _; omega) ?_
  have h0 := H3_z hp
  rintro (y0 | ⟨v0, v1, v2, v3, v4, v5, v6⟩) hs
  · cases hs
    simp only [trA, schema_each__schema_File_1_t]
    (repeat' (first | (intro _) | (apply And.intro))) <;> grind [F3_nil, G_z4, G_n4]
  · obtain ⟨h1, h2, h3, rfl, rfl, h6, h7, h8⟩ := hs
    have a1 := @w64e (v2 + 1)
    have a2 := H3_d hp v2.toNat
    have a4 := TL_d h0.2.2 v2.toNat
    have a5 := F3_sort h7 (by omega)
    have a6 := fun k v => F3_ok k v h7 (by omega)
    have a7 := fun k v h => @F3_with v6 k v h7 h
    simp only [trA, schema_each__schema_File_1_t]
    generalize v3.kids.getD v2.toNat Df.d = y2 at a2 ⊢
    generalize v3.keys.getD v2.toNat Df.d = y1 at a4 ⊢
    have a8 := W1_up a2.1
    have a9 := schema_services_z y2 a2.2
    have a10 := norm_Set_z y2 (W2_1 a2.1)
    have a11 := @G_51 (gv (norm_Set_m y2)).1
    (repeat' (first | (intro _) | (apply And.intro))) <;> grind [G_z4, schema_foreign_z, name_Project_z]
theorem schema_File_z (x0 : Node) (hp : H3 x0) : Z (schema_File_m x0) fun r => G 504 r.1 := by
  refine come0 schema_File_N rfl ?_
  simp only [trA, schema_File_t]
  have a1 := schema_each__schema_File_1_z x0 hp
  have a2 := node_Right_z (gv (schema_each__schema_File_1_m x0)).1 (G_up (d := 504) 96 a1.2)
  (repeat' (first | (intro _) | (apply And.intro))) <;> grind [G_z4]
end
end Go.Proofs.YtiahkjjfhnfdiaaGreatDoor.Rf
