/- The Mirror, part F: literals, fields, slices and indexes. -/
import Derived.Test.YtfoflgciceckoaaGreatDoorMirE
namespace Go.Proofs.YtfoflgciceckoaaGreatDoor.Mir
open Go Go.RowKit

section
variable {P : Program} {E : Env P} {w : World} {ro : Nat → Nat → Prop} {ι : Nat → Option Gh} {S : ASt E} {asm : List (Nat × Bool)} {a : Act}

theorem set_fold (off : Nat) : ∀ (l : List Value) (k : Nat) (C : Array Value),
    ((l.zipIdx k).foldl (fun (cs : Array Value) p => cs.setIfInBounds (off + p.2) p.1) C).size = C.size ∧
    ∀ q, ((l.zipIdx k).foldl (fun (cs : Array Value) p => cs.setIfInBounds (off + p.2) p.1) C)[q]? = if off + k ≤ q ∧ q < off + k + l.length ∧ q < C.size then l[q - off - k]? else C[q]?
  | [], k, C => by
    refine ⟨rfl, fun q => ?_⟩
    simp
    omega
  | x :: r, k, C => by
    obtain ⟨h1, h2⟩ := set_fold off r (k + 1) (C.setIfInBounds (off + k) x)
    simp only [List.zipIdx_cons, List.foldl_cons]
    refine ⟨h1.trans (by simp), fun q => ?_⟩
    rw [h2 q]
    simp only [Array.size_setIfInBounds, List.length_cons]
    by_cases hq : q = off + k
    · subst hq
      rw [if_neg (by omega)]
      by_cases hs : off + k < C.size
      · rw [if_pos (by omega)]
        simp [hs]
      · rw [if_neg (by omega)]
        simp [hs]
    · by_cases hin : off + (k + 1) ≤ q ∧ q < off + (k + 1) + r.length ∧ q < C.size
      · rw [if_pos hin, if_pos (by omega)]
        have e : q - off - k = (q - off - (k + 1)) + 1 := by omega
        rw [e, List.getElem?_cons_succ]
      · rw [if_neg hin, if_neg (by omega)]
        rw [Array.getElem?_setIfInBounds_ne (by omega)]

/-- A row of cells beside the interpreter's. -/
def Rel (E : Env P) (w : World) (ro : Nat → Nat → Prop) (ι : Nat → Option Gh) (vs : Array Value) (xs : List (AV E)) : Prop :=
  vs.size = xs.length ∧ ∀ (j : Nat) v x, vs[j]? = some v → xs[j]? = some x → Rep E w ro ι v x

theorem fill_rel {place place' : Nat → Option (Nat × Nat)} (hp : ∀ i x, place' i = some x → place i = some x) : ∀ (ps : List (Nat × Value)) (qs : List (Nat × AV E)) (C : Array Value) (X Y : List (AV E)),
    ps.length = qs.length → (∀ (i : Nat) p q, ps[i]? = some p → qs[i]? = some q → p.1 = q.1 ∧ Rep E w ro ι p.2 q.2) → Rel E w ro ι C X → fillA place' X qs = some Y →
    ∃ D, Instr.fill place C ps = some D ∧ Rel E w ro ι D Y
  | [], [], C, X, Y, _, _, hrel, h => by cases h; exact ⟨C, rfl, hrel⟩
  | p :: ps, q :: qs, C, X, Y, hl, hpq, hrel, h => by
    obtain ⟨i, v⟩ := p
    obtain ⟨i', x⟩ := q
    obtain ⟨h1, h2⟩ := hpq 0 _ _ rfl rfl
    simp only at h1 h2
    subst h1
    unfold fillA at h
    cases hpl : place' i with
    | none => rw [hpl] at h; cases h
    | some os =>
      obtain ⟨off, size⟩ := os
      rw [hpl] at h
      simp only at h
      cases hc : cellsA x with
      | none => rw [hc] at h; cases h
      | some vs =>
        rw [hc] at h
        simp only at h
        split at h
        · rename_i hcond
          obtain ⟨hsz, hle⟩ := hcond
          obtain ⟨c1, c2⟩ := cellsA_rep h2 hc
          have hC := hrel.1
          obtain ⟨f1, f2⟩ := set_fold off v.cells.toList 0 C
          have hrel' : Rel E w ro ι (v.cells.zipIdx.foldl (fun cs (c, j) => cs.setIfInBounds (off + j) c) C) (X.take off ++ vs ++ X.drop (off + size)) := by
            have e : (v.cells.zipIdx.foldl (fun cs (c, j) => cs.setIfInBounds (off + j) c) C) = ((v.cells.toList.zipIdx 0).foldl (fun (cs : Array Value) p => cs.setIfInBounds (off + p.2) p.1) C) := by
              rw [← Array.foldl_toList, Array.toList_zipIdx]
            rw [e]
            refine ⟨?_, fun j u y hu hy => ?_⟩
            · rw [f1, hC]
              simp only [List.length_append, List.length_take, List.length_drop]
              omega
            · rw [f2 j] at hu
              simp only [Nat.add_zero, Array.length_toList, Nat.sub_zero] at hu
              rcases Nat.lt_or_ge j off with hjo | hjo
              · rw [if_neg (by omega)] at hu
                rw [List.append_assoc, List.getElem?_append_left (by simp; omega), List.getElem?_take_of_lt hjo] at hy
                exact hrel.2 j u y hu hy
              · rcases Nat.lt_or_ge j (off + size) with hjn | hjn
                · rw [if_pos (by omega)] at hu
                  rw [List.append_assoc, List.getElem?_append_right (by simp; omega), List.getElem?_append_left (by simp; omega)] at hy
                  have e2 : (X.take off).length = off := by simp; omega
                  rw [e2] at hy
                  exact (c2 (j - off) u y (by simpa using hu) hy).2
                · rw [if_neg (by omega)] at hu
                  have e2 : (X.take off ++ vs).length = off + size := by simp; omega
                  rw [List.getElem?_append_right (by omega), e2, List.getElem?_drop, show off + size + (j - (off + size)) = j from by omega] at hy
                  exact hrel.2 j u y hu hy
          obtain ⟨D, hD, hr⟩ := fill_rel hp ps qs _ _ Y (by simpa using hl) (fun i p q hp hq => hpq (i + 1) p q (by simpa using hp) (by simpa using hq)) hrel' h
          refine ⟨D, ?_, hr⟩
          unfold Instr.fill
          rw [hp i _ hpl]
          simp only
          rw [if_neg (by simp; omega)]
          exact hD
        · cases h
  | [], _ :: _, _, _, _, hl, _, _, _ => by simp at hl
  | _ :: _, [], _, _, _, hl, _, _, _ => by simp at hl

theorem parts_rel (c : Ctx E S asm a w ι ro) (ps : Array (Nat × Operand)) : ∀ (i : Nat) p q, (ps.map fun (i, x) => (i, a.eval x)).toList[i]? = some p → (partsA S.tmps asm ps)[i]? = some q → p.1 = q.1 ∧ Rep E w ro ι p.2 q.2 := by
  intro i p q hp hq
  unfold partsA at hq
  rw [List.getElem?_map] at hq
  rw [Array.toList_map, List.getElem?_map] at hp
  cases hx : ps.toList[i]? with
  | none => rw [hx] at hq; cases hq
  | some x =>
    rw [hx] at hp hq
    cases hp; cases hq
    exact ⟨rfl, c.get x.2⟩

theorem zero_rel (z : Value) : Rel E w ro ι z.cells (z.cells.toList.map constS) := by
  refine ⟨by simp, fun j v x hv hx => ?_⟩
  rw [List.getElem?_map] at hx
  have : z.cells.toList[j]? = some v := by simpa using hv
  rw [this] at hx
  cases hx
  exact constS_rep v

theorem built_rel {T : TypeId} {ps : List (Nat × Value)} {qs : List (Nat × AV E)} {cs : List (AV E)} (hl : ps.length = qs.length) (hpq : ∀ (i : Nat) p q, ps[i]? = some p → qs[i]? = some q → p.1 = q.1 ∧ Rep E w ro ι p.2 q.2)
    (h : builtA T qs = some cs) : ∃ D, P.built T ps = some D ∧ Rel E w ro ι D cs := by
  unfold builtA at h
  unfold Program.built
  cases hit : P.info? T with
  | none => rw [hit] at h; cases h
  | some it =>
    rw [hit] at h
    cases hu : P.underlying T with
    | none => rw [hu] at h; cases h
    | some d =>
      rw [hu] at h
      cases d <;> try (cases h; done)
      case array n e =>
        simp only at h ⊢
        cases hz : it.zero with
        | none => rw [hz] at h; cases h
        | some z =>
          rw [hz] at h
          cases hie : P.info? e with
          | none => rw [hie] at h; cases h
          | some ie =>
            rw [hie] at h
            exact fill_rel (fun _ _ h => h) ps qs _ _ cs hl hpq (zero_rel z) h
      case struct fields =>
        simp only at h ⊢
        cases hz : it.zero with
        | none => rw [hz] at h; cases h
        | some z =>
          rw [hz] at h
          cases hp : fields.toList.mapM (fun f => (P.info? f.type).map fun i => (f.offset, i.size)) with
          | none => rw [hp] at h; cases h
          | some places =>
            rw [hp] at h
            exact fill_rel (fun _ _ h => h) ps qs _ _ cs hl hpq (zero_rel z) h

theorem done_build (c : Ctx E S asm a w ι ro) {o : Oper} {T : TypeId} {ps : Array (Nat × Operand)} (ho : o.op = .build T ps) {r : AV E} (h : evBuild T (partsA S.tmps asm ps) = some r) : OpDone E o a w ι ro S.next (.pure r) := by
  unfold evBuild at h
  cases hb : builtA T (partsA S.tmps asm ps) with
  | none => rw [hb] at h; cases h
  | some cs =>
    rw [hb] at h
    cases h
    obtain ⟨D, hD, hrel⟩ := built_rel (by simp [partsA]) (parts_rel c ps) hb
    exact c.pure (val := .agg D) (by simp only [execOp, ho, Sem.run_bind, run_build w T _ D hD, Result.andThen_ok, Sem.run_pure]) (packA_rep (.agg D cs hrel.1 hrel.2))

theorem done_field (c : Ctx E S asm a w ι ro) {o : Oper} {s : TypeId} {x : Operand} {f : Nat} (ho : o.op = .fieldAddr s x f) {r : AV E} (h : evField s (getA S.tmps asm x) f = some r) : OpDone E o a w ι ro S.next (.pure r) := by
  have hx := c.get x
  generalize hvx : a.eval x = vx at hx
  generalize getA S.tmps asm x = X at *
  unfold evField at h
  split at h
  · rename_i fs hu
    split at h
    · rename_i fl hfl
      split at h
      · rename_i n hn
        obtain ⟨i, d, hinfo, hd, hin⟩ := sizeT_inv hn
        split at h
        · rename_i id off
          cases h
          cases hx with
          | ptr gh g _ _ hi hgv =>
            exact c.pure (val := .pointer (some ⟨g, off + fl.offset, none⟩)) (by simp [execOp, ho, hvx, Instr.fieldAt, run_underlying hu, hfl, Instr.sureAddr, fieldPlace, run_sizeOf hinfo, hin, add_none]) (.ptr gh g id _ hi hgv)
        · rename_i cs
          cases h
          cases hx with
          | pelt g off fv _ h1 h2 =>
            refine c.pure (val := .pointer (some ⟨g, off + fl.offset, none⟩)) (by simp [execOp, ho, hvx, Instr.fieldAt, run_underlying hu, hfl, Instr.sureAddr, fieldPlace, run_sizeOf hinfo, hin, add_none])
              (.pelt g (off + fl.offset) (fun j => fv (fl.offset + j)) _ (fun j c hc => ?_) (fun j c hc => ?_))
            · rw [List.getElem?_drop] at hc
              rw [Nat.add_assoc]
              exact h1 _ c hc
            · rw [List.getElem?_drop] at hc
              exact h2 _ c hc
        · rename_i id i off
          cases h
          cases hx with
          | elt gh g _ _ _ cap hi hgv hlt =>
            exact c.pure (val := .pointer (some ⟨g, i * gh.sz + off + fl.offset, none⟩)) (by simp [execOp, ho, hvx, Instr.fieldAt, run_underlying hu, hfl, Instr.sureAddr, fieldPlace, run_sizeOf hinfo, hin, add_none]) (by rw [Nat.add_assoc]; exact .elt gh g id i _ cap hi hgv hlt)
        · cases h
      · cases h
    · cases h
  · cases h

theorem run_part {T : TypeId} {vs : Array Value} {cs : List (AV E)} {off : Nat} {r : AV E} (hrel : Rel E w ro ι vs cs) (h : takeA T (cs.drop off) = some r) : ∃ val, (part T vs off).run P w = .ok val w ∧ Rep E w ro ι val r := by
  unfold takeA at h
  cases hsz : sizeT P T with
  | none => rw [hsz] at h; cases h
  | some n =>
    obtain ⟨i, d, hi, hd, hn⟩ := sizeT_inv hsz
    rw [hsz] at h
    simp only at h
    by_cases ha : isAggT P T = true
    · rw [if_pos ha] at h
      split at h
      · rename_i hle
        cases h
        have hlen := hrel.1
        simp only [List.length_drop] at hle
        refine ⟨.agg (vs.extract off (off + n)), ?_, packA_rep (.agg _ _ (by simp; omega) (fun j v c hv hc => ?_))⟩
        · unfold part
          simp [run_isAgg hd, ha, run_sizeOf hi, hn]
        · have hj : j < n := by have := (List.getElem?_eq_some_iff.1 hc).1; simp at this; omega
          rw [List.getElem?_take_of_lt hj, List.getElem?_drop] at hc
          refine hrel.2 (off + j) v c ?_ hc
          rw [Array.getElem?_extract] at hv
          split at hv
          · exact hv
          · cases hv
      · cases h
    · rw [if_neg ha] at h
      rw [List.getElem?_drop, Nat.add_zero] at h
      have hlt : off < vs.size := by rw [hrel.1]; exact (List.getElem?_eq_some_iff.1 h).1
      refine ⟨vs[off], ?_, hrel.2 off _ r (Array.getElem?_eq_getElem hlt) h⟩
      unfold part
      simp [run_isAgg hd, ha, hlt]

theorem done_fieldV (c : Ctx E S asm a w ι ro) {o : Oper} {s : TypeId} {x : Operand} {f : Nat} (ho : o.op = .field s x f) {r : AV E} (h : evFieldV s (getA S.tmps asm x) f = some r) : OpDone E o a w ι ro S.next (.pure r) := by
  have hx := c.get x
  generalize hvx : a.eval x = vx at hx
  generalize getA S.tmps asm x = X at *
  unfold evFieldV at h
  split at h
  · rename_i fs hu
    split at h
    · rename_i fl hfl
      split at h
      · rename_i cs hcs
        obtain ⟨k1, k2⟩ := cellsA_rep hx hcs
        have hrel : Rel E w ro ι vx.cells cs := ⟨k1, fun j v x hv hx => (k2 j v x hv hx).2⟩
        split at h
        · cases hx with
          | st vs t y ha hrow =>
            obtain ⟨val, hrun, hr⟩ := run_part (P := P) hrel h
            exact c.pure (val := val) (by simp only [Value.cells] at hrun; simp [execOp, ho, hvx, Instr.field, run_underlying hu, hfl, asAgg, hrun]) hr
        · cases hx with
          | agg vs cs' hs hi =>
            obtain ⟨val, hrun, hr⟩ := run_part (P := P) hrel h
            exact c.pure (val := val) (by simp only [Value.cells] at hrun; simp [execOp, ho, hvx, Instr.field, run_underlying hu, hfl, asAgg, hrun]) hr
        · cases h
      · cases h
    · cases h
  · cases h

theorem done_extract (c : Ctx E S asm a w ι ro) {o : Oper} {x : Operand} {i : Nat} (ho : o.op = .extract x i) {r : AV E} (h : evExtract (getA S.tmps asm x) i = some r) : OpDone E o a w ι ro S.next (.pure r) := by
  have hx := c.get x
  generalize hvx : a.eval x = vx at hx
  generalize getA S.tmps asm x = X at *
  unfold evExtract at h
  split at h
  · rename_i vs
    cases hx with
    | tup us _ hs hi =>
      split at h
      · cases h
      · rename_i v hv hne
        cases h
        have hlt : i < us.size := by rw [hs]; exact (List.getElem?_eq_some_iff.1 hne).1
        exact c.pure (val := us[i]) (by simp [execOp, ho, hvx, Instr.extract, hlt]) (hi i _ _ (Array.getElem?_eq_getElem hlt) hne)
      · cases h
  · cases h
end
end Go.Proofs.YtfoflgciceckoaaGreatDoor.Mir
