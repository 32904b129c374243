/- The Mirror, part C: each operation does in the model what the interpreter says. -/
import Derived.Test.YtfoflgciceckoaaGreatDoorMirB
import Derived.Laws.Tables
import Derived.Laws.Cover1
import Derived.Laws.Strings
import Derived.WalkLawsBesides
namespace Go.Proofs.YtfoflgciceckoaaGreatDoor.Mir
open Go Go.RowKit

section
variable {P : Program} {E : Env P} {w : World} {ro : Nat → Nat → Prop} {ι : Nat → Option Gh}

def AsmOk (a : Act) (asm : List (Nat × Bool)) : Prop := ∀ j b, hasAsm asm j b = true → a.tmps[j]? = some (.bool b)

theorem toList_str (s : ByteArray) : (⟨s.data.toList.toArray⟩ : ByteArray) = s := by simp

theorem constS_rep (v : Value) : Rep E w ro ι v (constS v) := by
  cases v with
  | bool b => exact .d _ _ (.bool b)
  | int k n => exact .d _ _ (.int k n)
  | string s => exact .d _ _ (by have := DRep.str (E := E) (w := w) (ro := ro) s.data.toList; rw [toList_str] at this; exact this)
  | agg cs => exact .any _
  | tuple cs => exact .any _
  | float k b =>
    cases k with
    | f32 => exact .d _ _ (.raw _ rfl)
    | f64 =>
      show Rep E w ro ι (.float .f64 b) (match F64.whole b with | some n => .d (.flt n) | none => .d (.raw (.float .f64 b)))
      cases h : F64.whole b with
      | none => exact .d _ _ (.raw _ rfl)
      | some n => exact .d _ _ (.flt b n (F64.whole_isF h))
  | complex k x y =>
    cases k with
    | f32 => exact .d _ _ (.raw _ rfl)
    | f64 =>
      show Rep E w ro ι (.complex .f64 x y) (match F64.whole x, F64.whole y with | some a, some b => .d (.cpx a b) | _, _ => .d (.raw (.complex .f64 x y)))
      cases h1 : F64.whole x with
      | none => exact .d _ _ (.raw _ rfl)
      | some a =>
        cases h2 : F64.whole y with
        | none => exact .d _ _ (.raw _ rfl)
        | some b => exact .d _ _ (.cpx x y a b (F64.whole_isF h1) (F64.whole_isF h2))
  | _ => exact .d _ _ (.raw _ rfl)

theorem constA_rep (v : Value) : Rep E w ro ι v (constA v) := by
  cases v with
  | agg cs =>
    refine .agg cs _ (by simp) (fun j v c hv hc => ?_)
    have hc' : (cs.toList.map (constS (E := E)))[j]? = some c := hc
    rw [List.getElem?_map] at hc'
    have : cs.toList[j]? = some v := by simpa using hv
    rw [this] at hc'
    simp at hc'
    subst hc'
    exact constS_rep v
  | _ => exact constS_rep _

theorem getA_rep {a : Act} {tm : List (Nat × AV E)} {asm : List (Nat × Bool)} (ht : TmOk E w ro ι a tm) (hs : AsmOk a asm) (x : Operand) : Rep E w ro ι (a.eval x) (getA tm asm x) := by
  cases x with
  | const v => exact constA_rep v
  | global g => exact .any _
  | func f => exact .d _ _ (.raw _ rfl)
  | tmp t =>
    show Rep E w ro ι (a.tmps.getD t undef) (slotA asm (look tm t))
    cases hx : look tm t with
    | none => exact .any _
    | some x =>
      obtain ⟨v, hv, h⟩ := ht t x hx
      have e : a.tmps.getD t undef = v := by simp [Array.getD_eq_getD_getElem?, hv]
      rw [e]
      cases x with
      | cond j b u =>
        show Rep E w ro ι v (if hasAsm asm j b then u else .any)
        by_cases hb : hasAsm asm j b = true
        · rw [if_pos hb]; exact h.1 (hs j b hb)
        · rw [if_neg hb]; exact .any _
      | _ => exact h

/-- What one operation comes to. -/
def OpDone (E : Env P) (o : Oper) (a : Act) (w : World) (ι : Nat → Option Gh) (ro : Nat → Nat → Prop) (nid : Nat) (r : Res E) : Prop :=
  (∃ val w' ι' ro', (execOp a.eval o).run P w = .ok (.value val) w' ∧ OpPost E w w' ι ι' ro ro' nid r val) ∨
  (∃ w' ι' ro', (execOp a.eval o).run P w = .ok .skip w' ∧ OpPost E w w' ι ι' ro ro' nid r undef) ∨
  (∃ f args, (execOp a.eval o).run P w = .ok (.enter f args) w ∧ Calls P f args w fun e w' => ∃ val ι' ro', e = .returned val ∧ OpPost E w w' ι ι' ro ro' nid r val)

theorem OpDone.wp {o : Oper} {a : Act} {nid : Nat} {r : Res E} {K : Act → World → Prop} {Q : Exit → Act → World → Prop} (h : OpDone E o a w ι ro nid r)
    (hK : ∀ val w' ι' ro', OpPost E w w' ι ι' ro ro' nid r val → K (a.put o.dst val) w') : o.wp P a w K Q := by
  unfold Oper.wp
  rcases h with ⟨val, w', ι', ro', hr, hp⟩ | ⟨w', ι', ro', hr, hp⟩ | ⟨f, args, hr, hc⟩
  · rw [hr]; exact hK _ _ _ _ hp
  · rw [hr]; exact hK _ _ _ _ hp
  · rw [hr]
    refine hc.mono fun e w' he => ?_
    obtain ⟨val, ι', ro', rfl, hp⟩ := he
    exact hK _ _ _ _ hp

/-- An operation that only reckons. -/
theorem OpDone.pure {o : Oper} {a : Act} {nid : Nat} {r : Res E} {val : Value} (hlt : ∀ k o, ro k o → k < w.heap.size) (hi : ι nid = none) (hr : (execOp a.eval o).run P w = .ok (.value val) w)
    (hu : r.upd = none) (hn : r.new = none) (hv : Rep E w ro ι val r.v) : OpDone E o a w ι ro nid r :=
  .inl ⟨val, w, ι, ro, hr, .pure hu hn hlt hi hv⟩

/-! Inversion: what a value of a known form is. -/
theorem Rep.bool_inv {v : Value} {b : Bool} (h : Rep E w ro ι v (.d (.bool b))) : v = .bool b := by
  cases h with | d _ _ h => cases h; rfl
theorem Rep.int_inv {v : Value} {k : IntKind} {n : Int} (h : Rep E w ro ι v (.d (.int k n))) : v = .int k n := by
  cases h with | d _ _ h => cases h; rfl
theorem Rep.flt_inv {v : Value} {n : Int} (h : Rep E w ro ι v (.d (.flt n))) : ∃ b, v = .float .f64 b ∧ F64.IsF b n := by
  cases h with | d _ _ h => cases h with | flt b _ h => exact ⟨b, rfl, h⟩
theorem Rep.cpx_inv {v : Value} {a b : Int} (h : Rep E w ro ι v (.d (.cpx a b))) : ∃ x y, v = .complex .f64 x y ∧ F64.IsF x a ∧ F64.IsF y b := by
  cases h with | d _ _ h => cases h with | cpx x y _ _ h1 h2 => exact ⟨x, y, rfl, h1, h2⟩
theorem Rep.str_inv {v : Value} {s : List UInt8} (h : Rep E w ro ι v (.d (.str s))) : v = .string ⟨s.toArray⟩ := by
  cases h with | d _ _ h => cases h; rfl
theorem Rep.raw_inv {v u : Value} (h : Rep E w ro ι v (.d (.raw u))) : v = u := by
  cases h with | d _ _ h => cases h; rfl

theorem cellOk_one {v : Value} {c : AV E} (hc : cellOk c = true) (h : Rep E w ro ι v c) : v.oneCell' = true := by
  cases h with
  | any v => cases hc
  | d v c h => exact h.one
  | st => cases hc
  | agg => cases hc
  | tup => cases hc
  | grow gh t l id h1 _ _ _ h2 => exact h2.one
  | ptr => rfl
  | pelt => rfl
  | row gh t id ad cap _ _ _ h => rw [h]; rfl
  | elt => rfl

theorem toD_rep {v : Value} {x : AV E} {c : DVal E.Den} (h : Rep E w ro ι v x) (hc : toD x = some c) : DRep E w ro v c := by
  cases h with
  | d v c' h => cases hc; exact h
  | grow gh t l id _ _ _ _ h => cases hc; exact h
  | _ => cases hc

theorem toDs_len : ∀ {cs : List (AV E)} {ds : List (DVal E.Den)}, toDs cs = some ds → ds.length = cs.length
  | [], ds, h => by cases h; rfl
  | c :: r, ds, h => by
    unfold toDs at h
    cases hc : toD c with
    | none => rw [hc] at h; cases h
    | some x =>
      cases hr : toDs r with
      | none => rw [hc, hr] at h; cases h
      | some xs =>
        rw [hc, hr] at h
        cases h
        simp [toDs_len hr]

theorem toDs_at : ∀ {cs : List (AV E)} {ds : List (DVal E.Den)}, toDs cs = some ds → ∀ (j : Nat) c e, cs[j]? = some c → ds[j]? = some e → toD c = some e
  | [], _, _, j, c, _, hj, _ => by simp at hj
  | c :: r, ds, h, j, c', e, hj, he => by
    unfold toDs at h
    cases hc : toD c with
    | none => rw [hc] at h; cases h
    | some x =>
      cases hr : toDs r with
      | none => rw [hc, hr] at h; cases h
      | some xs =>
        rw [hc, hr] at h
        cases h
        cases j with
        | zero =>
          simp at hj he
          subst hj; subst he
          exact hc
        | succ j => exact toDs_at hr j c' e (by simpa using hj) (by simpa using he)

theorem castD_rep {v : Value} {t t' : E.Ty} {x : E.Den t} {y : E.Den t'} (h : castD t t' x = some y) (hr : TRep E w ro v t x) : TRep E w ro v t' y := by
  unfold castD at h
  cases hd : E.dec t t' with
  | isFalse hn => rw [hd] at h; cases h
  | isTrue he =>
    rw [hd] at h
    subst he
    cases h
    exact hr

theorem single_of_len {α : Type} {l : List α} (h : l.length = 1) : ∃ x, l = [x] := by
  match l, h with
  | [x], _ => exact ⟨x, rfl⟩

theorem foldD_rep {v : Value} {t : E.Ty} {c : DVal E.Den} {y : E.Den t} (ha : E.agg t = false) (hf : E.fold t [c] = some y) (hd : DRep E w ro v c) : TRep E w ro v t y := by
  have hle := E.fold_ok t _ _ hf
  obtain ⟨c', hc'⟩ := single_of_len ((E.cells_len t y).trans (E.one t ha))
  rw [hc'] at hle
  exact .inr ⟨ha, c', hc', hle.1.rep hd⟩

theorem foldA_rep {v : Value} {t : E.Ty} {x : AV E} {y : E.Den t} (h : Rep E w ro ι v x) (hf : foldA t x = some y) : TRep E w ro v t y := by
  have scalar : ∀ c, toD x = some c → (if E.agg t then none else (match toD x with | some c => E.fold t [c] | none => none)) = some y → TRep E w ro v t y := by
    intro c hc hf
    by_cases ha : E.agg t = true
    · rw [if_pos ha] at hf; cases hf
    · rw [if_neg ha, hc] at hf
      exact foldD_rep (by simpa using ha) hf (toD_rep h hc)
  cases h with
  | st vs t' x' ha hrow =>
    change (match castD t' t x' with | some y => some y | none => if E.agg t then E.fold t (E.cells t' x') else none) = some y at hf
    cases hc : castD t' t x' with
    | some y' =>
      rw [hc] at hf
      cases hf
      exact castD_rep hc (.inl ⟨ha, vs, rfl, hrow⟩)
    | none =>
      rw [hc] at hf
      by_cases hat : E.agg t = true
      · simp only [if_pos hat] at hf
        exact .inl ⟨hat, vs, rfl, RowRep.le (E.fold_ok t _ _ hf) hrow⟩
      · simp only [if_neg hat] at hf
        cases hf
  | agg vs cs hs hi =>
    change (if E.agg t then (match toDs cs with | some ds => E.fold t ds | none => none) else none) = some y at hf
    by_cases ha : E.agg t = true
    · rw [if_pos ha] at hf
      cases hd : toDs cs with
      | none => rw [hd] at hf; cases hf
      | some ds =>
        rw [hd] at hf
        refine .inl ⟨ha, vs, rfl, RowRep.le (E.fold_ok t _ _ hf) ⟨hs.trans (toDs_len hd).symm, fun j u e hu he => ?_⟩⟩
        have hj : j < cs.length := by rw [← toDs_len hd]; exact (List.getElem?_eq_some_iff.1 he).1
        have hcj := List.getElem?_eq_getElem hj
        exact toD_rep (hi j u _ hu hcj) (toDs_at hd j _ e hcj he)
    · rw [if_neg ha] at hf; cases hf
  | d v c hd => exact scalar c rfl hf
  | grow gh t' l id h1 hn he hs hd => exact scalar _ rfl hf
  | any v => change (if E.agg t then none else none) = some y at hf; split at hf <;> cases hf
  | tup vs cs => change (if E.agg t then none else none) = some y at hf; split at hf <;> cases hf
  | ptr => change (if E.agg t then none else none) = some y at hf; split at hf <;> cases hf
  | pelt => change (if E.agg t then none else none) = some y at hf; split at hf <;> cases hf
  | row => change (if E.agg t then none else none) = some y at hf; split at hf <;> cases hf
  | elt => change (if E.agg t then none else none) = some y at hf; split at hf <;> cases hf

theorem expandA_rep {v : Value} {t : E.Ty} {x : E.Den t} (h : TRep E w ro v t x) : Rep E w ro ι v (expandA t x) := by
  unfold expandA
  rcases h with ⟨ha, vs, rfl, hrow⟩ | ⟨ha, c, hc, hd⟩
  · rw [if_pos ha]; exact .st vs t x ha hrow
  · rw [if_neg (by simp [ha]), hc]; exact .d _ _ hd

theorem packA_rep {v : Value} {T : TypeId} {x : AV E} (h : Rep E w ro ι v x) : Rep E w ro ι v (packA T x) := by
  unfold packA
  cases nilIn x with
  | true => exact h
  | false =>
  simp only [cond_false]
  cases E.code T with
  | none => exact h
  | some t =>
    cases hf : foldA t x with
    | none => simp only [hf]; exact h
    | some y => simp only [hf]; exact expandA_rep (foldA_rep h hf)

theorem allOk_at : ∀ {cs : List (AV E)}, allOk cs = true → ∀ (j : Nat) c, cs[j]? = some c → cellOk c = true
  | [], _, j, c, h => by simp at h
  | x :: r, ha, j, c, h => by
    unfold allOk at ha
    simp at ha
    cases j with
    | zero => simp at h; subst h; exact ha.1
    | succ j => exact allOk_at ha.2 j c (by simpa using h)

theorem cellsA_rep {v : Value} {x : AV E} {cs : List (AV E)} (h : Rep E w ro ι v x) (hc : cellsA x = some cs) :
    v.cells.size = cs.length ∧ ∀ (j : Nat) u c, v.cells[j]? = some u → cs[j]? = some c → u.oneCell' = true ∧ Rep E w ro ι u c := by
  have single : cellOk x = true → cs = [x] → v.cells.size = cs.length ∧ ∀ (j : Nat) u c, v.cells[j]? = some u → cs[j]? = some c → u.oneCell' = true ∧ Rep E w ro ι u c := by
    intro hk hcs
    have h1 := cellOk_one hk h
    rw [Value.cells_one h1, hcs]
    refine ⟨rfl, fun j u c hu hj => ?_⟩
    cases j with
    | zero => simp at hu hj; subst hu; subst hj; exact ⟨h1, h⟩
    | succ j => simp at hj
  cases h with
  | st vs t x ha hrow =>
    cases hc
    refine ⟨by simpa [Value.cells] using hrow.1, fun j u c hu hj => ?_⟩
    rw [List.getElem?_map] at hj
    cases he : (E.cells t x)[j]? with
    | none => rw [he] at hj; cases hj
    | some e =>
      rw [he] at hj
      cases hj
      have hd := hrow.2 j u e (by simpa [Value.cells] using hu) he
      exact ⟨hd.one, .d _ _ hd⟩
  | agg vs cs' hs hi =>
    change (if allOk cs' then some cs' else none) = some cs at hc
    by_cases hk : allOk cs' = true
    · rw [if_pos hk] at hc
      cases hc
      refine ⟨hs, fun j u c hu hj => ?_⟩
      have hr := hi j u c (by simpa [Value.cells] using hu) hj
      exact ⟨cellOk_one (allOk_at hk j c hj) hr, hr⟩
    · rw [if_neg hk] at hc; cases hc
  | d v c hd => cases hc; exact single rfl rfl
  | grow gh t l id h1 hn he hs hd => cases hc; exact single rfl rfl
  | ptr gh g id off h hv => cases hc; exact single rfl rfl
  | pelt g off f cs' h1 h2 => cases hc; exact single rfl rfl
  | row => cases hc; exact single rfl rfl
  | elt => cases hc; exact single rfl rfl
  | any v => cases hc
  | tup vs cs => cases hc

theorem add_none (g off j : Nat) : (⟨g, off, none⟩ : Addr).add j = ⟨g, off + j, none⟩ := by
  unfold Addr.add
  split <;> simp_all

theorem run_isAgg {T : TypeId} {d : TypeDesc} (h : P.underlying T = some d) : (isAgg T).run P w = .ok (isAggT P T) w := by
  unfold isAgg isAggT
  rw [h]
  cases d <;> simp [run_underlying h]

theorem sizeT_inv {T : TypeId} {n : Nat} (h : sizeT P T = some n) : ∃ i d, P.info? T = some i ∧ P.underlying T = some d ∧ i.size = n := by
  unfold sizeT at h
  cases hi : P.info? T with
  | none => rw [hi] at h; cases h
  | some i =>
    cases hd : P.underlying T with
    | none => rw [hi, hd] at h; cases h
    | some d => rw [hi, hd] at h; cases h; exact ⟨i, d, rfl, rfl, rfl⟩

theorem run_sizeOf {T : TypeId} {i : TypeInfo} (h : P.info? T = some i) : (sizeOf T).run P w = .ok i.size w := by simp [sizeOf, typeInfo, h]

theorem run_loadVar_rep {T : TypeId} {cs : List (AV E)} {r : AV E} {g off : Nat} (hcs : ∀ (j : Nat) c, cs[j]? = some c → ∃ u, w.cell? ⟨g, off + j, none⟩ = some u ∧ Rep E w ro ι u c) (ht : takeA T cs = some r) :
    ∃ val, (loadVar T ⟨g, off, none⟩).run P w = .ok val w ∧ Rep E w ro ι val r := by
  unfold takeA at ht
  cases hsz : sizeT P T with
  | none => rw [hsz] at ht; cases ht
  | some n =>
    obtain ⟨i, d, hi, hd, hn⟩ := sizeT_inv hsz
    rw [hsz] at ht
    simp only at ht
    by_cases ha : isAggT P T = true
    · rw [if_pos ha] at ht
      by_cases hle : n ≤ cs.length
      · rw [if_pos hle] at ht
        cases ht
        let f : Nat → Value := fun j => ((w.cell? ⟨g, off + j, none⟩).getD undef)
        have hf : ∀ j, j < n → w.cell? ((⟨g, off, none⟩ : Addr).add j) = some (f j) := by
          intro j hj
          obtain ⟨u, hu, _⟩ := hcs j _ (List.getElem?_eq_getElem (show j < cs.length by omega))
          rw [add_none]
          simp [f, hu]
        have hrun := run_loadCells (P := P) w ⟨g, off, none⟩ n f hf
        refine ⟨.agg ((List.range n).map f).toArray, ?_, packA_rep (.agg _ _ (by simp; omega) (fun j v c hv hc => ?_))⟩
        · unfold loadVar
          simp [run_isAgg hd, ha, run_sizeOf hi, hn, hrun]
        · have hj : j < n := by have := (List.getElem?_eq_some_iff.1 hc).1; simp at this; omega
          have hc' : cs[j]? = some c := by rw [List.getElem?_take_of_lt hj] at hc; exact hc
          obtain ⟨u, hu, hr⟩ := hcs j c hc'
          have hv' : v = u := by
            simp [hj] at hv
            rw [← hv]
            simp [f, hu]
          rw [hv']; exact hr
      · rw [if_neg hle] at ht; cases ht
    · rw [if_neg ha] at ht
      obtain ⟨u, hu, hr⟩ := hcs 0 r ht
      refine ⟨u, ?_, hr⟩
      unfold loadVar
      simp at hu
      simp [run_isAgg hd, ha, run_load, hu]
end
end Go.Proofs.YtfoflgciceckoaaGreatDoor.Mir
