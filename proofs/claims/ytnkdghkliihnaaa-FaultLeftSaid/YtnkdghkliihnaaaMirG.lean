/- The Mirror, part G: slices (indexes, cuts, lengths, literals, append) and calls. -/
import Derived.Test.YtnkdghkliihnaaaMirF
namespace Go.Proofs.Ytnkdghkliihnaaa.Mir
open Go Go.RowKit

section
variable {P : Program} {E : Env P} {w : World} {ro : Nat → Nat → Prop} {ι : Nat → Option Gh} {S : ASt E} {asm : List (Nat × Bool)} {a : Act}

theorem sliceA_rep {v : Value} {x : AV E} {e : TypeId} {t : E.Ty} {l : List (E.Den t)} (h : Rep E w ro ι v x) (hs : sliceA e x = some ⟨t, l⟩) : DRep E w ro v (.slice t l) := by
  unfold sliceA at hs
  split at hs
  · cases hs; exact toD_rep h rfl
  · cases hs; exact toD_rep h rfl
  · have := h.raw_inv
    subst this
    split at hs
    · cases hs; exact .nil _ _ _
    · cases hs
  · cases hs

/-- What a slice that reads as a list is. -/
theorem DRep.slice_inv {v : Value} {t : E.Ty} {l : List (E.Den t)} (h : DRep E w ro v (.slice t l)) : ∃ ad cap, v = .slice ad l.length cap ∧ (l = [] ∨ ∃ g off, ad = some ⟨g, off, none⟩ ∧ l.length ≤ cap ∧ ∃ f : Nat → Nat → Value,
    (∀ i x j c, l[i]? = some x → (E.cells t x)[j]? = some c → ro g (off + i * E.size t + j) ∧ w.cell? ⟨g, off + i * E.size t + j, none⟩ = some (f i j)) ∧
    (∀ i x j c, l[i]? = some x → (E.cells t x)[j]? = some c → DRep E w ro (f i j) c)) := by
  cases h with
  | nil t a cap => exact ⟨a, cap, rfl, .inl rfl⟩
  | slice t l g off cap f hl h1 h2 => exact ⟨_, cap, rfl, .inr ⟨g, off, rfl, hl, f, h1, h2⟩⟩

theorem elemT_inv {T e : TypeId} (h : elemT P T = some e) : P.underlying T = some (.slice e) := by
  unfold elemT at h
  cases hu : P.underlying T with
  | none => rw [hu] at h; cases h
  | some d => rw [hu] at h; cases d <;> first | (cases h; done) | (cases h; rfl)

theorem isStrT_inv {T : TypeId} (h : isStrT P T = true) : P.underlying T = some .string := by
  unfold isStrT at h
  cases hu : P.underlying T with
  | none => rw [hu] at h; cases h
  | some d => rw [hu] at h; cases d <;> first | (cases h; done) | rfl

theorem run_size_tid (t : E.Ty) : (sizeOf (E.tid t)).run P w = .ok (E.size t) w := by
  obtain ⟨i, z, hi, hs, _⟩ := E.info_ok t
  rw [run_sizeOf hi, hs]

theorem getD_get {α : Type} {l : List α} {i : Nat} (h : i < l.length) (d : α) : l[i]? = some (l.getD i d) := by
  rw [List.getD, List.getElem?_eq_getElem h]; rfl

theorem done_indexAddr (c : Ctx E S asm a w ι ro) {o : Oper} {T : TypeId} {x i : Operand} (ho : o.op = .indexAddr T x i) {r : Bool × AV E} (h : evIndexAddr T (getA S.tmps asm x) (getA S.tmps asm i) = some r) (hok : r.1 = true) :
    OpDone E o a w ι ro S.next (.test r.1 r.2) := by
  obtain ⟨ok, r⟩ := r
  have hx := c.get x
  have hi := c.get i
  generalize hvx : a.eval x = vx at hx
  generalize hvi : a.eval i = vi at hi
  generalize getA S.tmps asm x = X at *
  generalize getA S.tmps asm i = I at *
  unfold evIndexAddr at h
  split at h
  · rename_i e k n he
    have e1 := hi.int_inv
    subst e1
    split at h
    · rename_i t len id
      split at h
      · rename_i ht
        have ht := Nat.eq_of_beq_eq_true ht
        subst ht
        cases h
        simp only [Bool.and_eq_true, decide_eq_true_eq] at hok
        obtain ⟨h0, h1⟩ := hok
        have hu := elemT_inv he
        cases hx with
        | row gh _ _ ad cap hi hge hgs hgv had =>
          have hlt : n.toNat < gh.n := by omega
          obtain ⟨g, rfl⟩ := had (by omega)
          refine .pure c.rolt c.fresh (val := .pointer (some ⟨g, n.toNat * gh.sz + 0, none⟩)) ?_ rfl rfl (.elt gh g id n.toNat 0 cap hi hgv hlt)
          simp [execOp, ho, hvx, hvi, hgv, Instr.indexAt, asIntOf, run_underlying hu, h0, h1, run_size_tid, add_none, hgs]
      · cases h
    · split at h
      · rename_i t l hsl
        split at h
        · rename_i ht
          have ht := Nat.eq_of_beq_eq_true ht
          subst ht
          cases h
          simp only [Bool.and_eq_true, decide_eq_true_eq] at hok
          obtain ⟨h0, h1⟩ := hok
          have hu := elemT_inv he
          obtain ⟨ad, cap, rfl, hd⟩ := (sliceA_rep hx hsl).slice_inv
          rcases hd with rfl | ⟨g, off, rfl, hcap, f, f1, f2⟩
          · simp at h1; omega
          · have hlt : n.toNat < l.length := by omega
            have hg := getD_get hlt (E.dflt t)
            refine .pure c.rolt c.fresh (val := .pointer (some ⟨g, off + n.toNat * E.size t, none⟩)) ?_ rfl rfl
              (.pelt g _ (f n.toNat) _ (fun j c hc => f1 _ _ j c hg hc) (fun j c hc => f2 _ _ j c hg hc))
            simp [execOp, ho, hvx, hvi, Instr.indexAt, asIntOf, run_underlying hu, h0, h1, run_size_tid, add_none]
        · cases h
      · cases h
  · cases h

theorem done_index (c : Ctx E S asm a w ι ro) {o : Oper} {T : TypeId} {x i : Operand} (ho : o.op = .index T x i) {r : Bool × AV E} (h : evIndex T (getA S.tmps asm x) (getA S.tmps asm i) = some r) (hok : r.1 = true) :
    OpDone E o a w ι ro S.next (.test r.1 r.2) := by
  obtain ⟨ok, r⟩ := r
  have hx := c.get x
  have hi := c.get i
  generalize hvx : a.eval x = vx at hx
  generalize hvi : a.eval i = vi at hi
  generalize getA S.tmps asm x = X at *
  generalize getA S.tmps asm i = I at *
  unfold evIndex at h
  split at h
  · rename_i hT
    split at h
    · rename_i s k n
      have e1 := hi.int_inv
      have e2 := hx.str_inv
      subst e1; subst e2
      cases h
      simp only [Bool.and_eq_true, decide_eq_true_eq] at hok
      obtain ⟨h0, h1⟩ := hok
      have hlt : n.toNat < s.length := by omega
      have hg := getD_get hlt 0
      refine .pure c.rolt c.fresh (val := .int .u8 (s.getD n.toNat 0).toNat) ?_ rfl rfl (.d _ _ (.int _ _))
      have hb : (⟨s.toArray⟩ : ByteArray)[n.toNat]? = some (s.getD n.toNat 0) := by
        have hlt' : n.toNat < (ByteArray.mk s.toArray).size := by show n.toNat < s.toArray.size; simpa using hlt
        have e3 : (ByteArray.mk s.toArray)[n.toNat]? = some ((ByteArray.mk s.toArray)[n.toNat]'hlt') := by rw [getElem?_pos]
        rw [e3]
        have e4 : (ByteArray.mk s.toArray)[n.toNat]'hlt' = s[n.toNat] := rfl
        rw [e4]
        rw [List.getElem?_eq_getElem hlt] at hg
        exact hg
      simp only [execOp, ho, hvx, hvi, Instr.index, asIntOf]
      simp only [Sem.run_bind, Sem.run_pure, Result.andThen_ok, run_underlying (isStrT_inv hT), if_pos h0, hb]
    · cases h
  · cases h

theorem done_len (c : Ctx E S asm a w ι ro) {o : Oper} {T : TypeId} {x : Operand} {cs : Array TypeId} (ho : o.op = .call { callee := .builtin .len, args := #[x], argTypes := cs }) (hcs : cs.toList = [T]) {r : AV E} (h : evLen T (getA S.tmps asm x) = some r) :
    OpDone E o a w ι ro S.next (.pure r) := by
  have hx := c.get x
  generalize hvx : a.eval x = vx at hx
  generalize getA S.tmps asm x = X at *
  obtain rfl : cs = #[T] := by cases cs; simp at hcs; simp [hcs]
  unfold evLen at h
  split at h
  · rename_i hT
    split at h
    · rename_i s
      have e2 := hx.str_inv
      subst e2
      cases h
      refine c.pure (val := .int .i64 s.length) ?_ (.d _ _ (.int _ _))
      have hsz : (⟨s.toArray⟩ : ByteArray).size = s.length := by show s.toArray.size = _; simp
      simp [execOp, ho, hvx, resolve, invoke, builtin, Builtin.len_, run_underlying (isStrT_inv hT), goInt, hsz]
    · cases h
  · split at h
    · rename_i e he
      split at h
      · rename_i t n id
        cases h
        have hu := elemT_inv he
        cases hx with
        | row gh _ _ ad cap hi hge hgs hgv had =>
          exact c.pure (val := .int .i64 gh.n) (by simp [execOp, ho, hvx, hgv, resolve, invoke, builtin, Builtin.len_, run_underlying hu, goInt]) (.d _ _ (.int _ _))
      · split at h
        · rename_i t l hsl
          cases h
          have hu := elemT_inv he
          obtain ⟨ad, cap, rfl, hd⟩ := (sliceA_rep hx hsl).slice_inv
          exact c.pure (val := .int .i64 l.length) (by simp [execOp, ho, hvx, resolve, invoke, builtin, Builtin.len_, run_underlying hu, goInt]) (.d _ _ (.int _ _))
        · cases h
    · cases h

theorem optA_some (c : Ctx E S asm a w ι ro) (x : Option Operand) {len : Nat} {m : Int} :
    (loA (optA S.tmps asm x) = some m → (x.map a.eval = none ∧ m = 0) ∨ ∃ k, x.map a.eval = some (.int k m)) ∧
    (hiA len (optA S.tmps asm x) = some m → (x.map a.eval = none ∧ m = len) ∨ ∃ k, x.map a.eval = some (.int k m)) := by
  cases x with
  | none => exact ⟨fun h => by cases h; exact .inl ⟨rfl, rfl⟩, fun h => by cases h; exact .inl ⟨rfl, rfl⟩⟩
  | some x =>
    have hx := c.get x
    refine ⟨fun h => ?_, fun h => ?_⟩
    · simp only [optA, loA] at h
      split at h
      · rename_i hq; cases hq
      · rename_i k q hq
        cases h
        cases hq2 : getA S.tmps asm x with
        | d cv =>
          rw [hq2] at hq hx
          cases hq
          exact .inr ⟨k, by simp [hx.int_inv]⟩
        | _ => rw [hq2] at hq; cases hq
      · cases h
    · simp only [optA, hiA] at h
      split at h
      · rename_i hq; cases hq
      · rename_i k q hq
        cases h
        cases hq2 : getA S.tmps asm x with
        | d cv =>
          rw [hq2] at hq hx
          cases hq
          exact .inr ⟨k, by simp [hx.int_inv]⟩
        | _ => rw [hq2] at hq; cases hq
      · cases h

theorem run_bounds (isSlice : Bool) (len cap : Nat) (low high : Option Value) (l h : Int) (hl : (low = none ∧ l = 0) ∨ ∃ k, low = some (.int k l)) (hh : (high = none ∧ h = len) ∨ ∃ k, high = some (.int k h))
    (h0 : 0 ≤ l) (h1 : l ≤ h) (h2 : h ≤ len) (hcap : len ≤ cap) : (Instr.sliceBounds isSlice len cap low high none).run P w = .ok (l.toNat, h.toNat, cap) w := by
  have e1 : (h.toNat : Int) = h := Int.toNat_of_nonneg (by omega)
  rcases hl with ⟨rfl, rfl⟩ | ⟨k1, rfl⟩ <;> rcases hh with ⟨rfl, rfl⟩ | ⟨k2, rfl⟩
  · simp [Instr.sliceBounds]
  · have hc : 0 ≤ h ∧ h ≤ (cap : Int) := ⟨by omega, by omega⟩
    simp [Instr.sliceBounds, Instr.sliceBound, asIntOf, hc.1, hc.2]
  · simp [Instr.sliceBounds, Instr.sliceBound, asIntOf, h0, h1]
  · have hc : 0 ≤ h ∧ h ≤ (cap : Int) := ⟨by omega, by omega⟩
    simp [Instr.sliceBounds, Instr.sliceBound, asIntOf, hc.1, hc.2, h0, e1, h1]

theorem done_slice (c : Ctx E S asm a w ι ro) {o : Oper} {T : TypeId} {x : Operand} {lo hi mx : Option Operand} (ho : o.op = .slice T x lo hi mx) {r : Bool × AV E}
    (h : evSlice T (getA S.tmps asm x) (optA S.tmps asm lo) (optA S.tmps asm hi) (optA S.tmps asm mx) = some r) (hok : r.1 = true) : OpDone E o a w ι ro S.next (.test r.1 r.2) := by
  obtain ⟨ok, r⟩ := r
  have hx := c.get x
  generalize hvx : a.eval x = vx at hx
  generalize getA S.tmps asm x = X at *
  unfold evSlice at h
  cases mx with
  | some m => simp only [optA] at h; cases h
  | none =>
    simp only [optA] at h
    split at h
    · rename_i hT
      split at h
      · rename_i s
        have e2 := hx.str_inv
        subst e2
        split at h
        · rename_i l hh hl' hh'
          cases h
          simp only [Bool.and_eq_true, decide_eq_true_eq] at hok
          obtain ⟨⟨h0, h1⟩, h2⟩ := hok
          have hlo := (optA_some c lo (len := s.length) (m := l)).1 hl'
          have hhi := (optA_some c hi (len := s.length) (m := hh)).2 hh'
          have hsz : (ByteArray.mk s.toArray).size = s.length := by show s.toArray.size = _; simp
          have hrun := run_bounds (P := P) (w := w) false s.length s.length _ _ l hh hlo hhi h0 h1 h2 (Nat.le_refl _)
          refine .pure c.rolt c.fresh (val := .string ⟨((s.drop l.toNat).take (hh.toNat - l.toNat)).toArray⟩) ?_ rfl rfl (.d _ _ (.str _))
          have hext := Lib.extract_eq ⟨s.toArray⟩ l.toNat hh.toNat
          simp only at hext
          simp [execOp, ho, hvx, Instr.sliceAt, Instr.slice, run_underlying (isStrT_inv hT), hsz, hrun, hext]
        · cases h
      · cases h
    · split at h
      · rename_i e he
        split at h
        · rename_i t l hsl
          split at h
          · rename_i ht
            have ht := Nat.eq_of_beq_eq_true ht
            subst ht
            split at h
            · rename_i lv hv hl' hh'
              cases h
              simp only [Bool.and_eq_true, decide_eq_true_eq] at hok
              obtain ⟨⟨h0, h1⟩, h2⟩ := hok
              have hlo := (optA_some c lo (len := l.length) (m := lv)).1 hl'
              have hhi := (optA_some c hi (len := l.length) (m := hv)).2 hh'
              have hu := elemT_inv he
              obtain ⟨ad, cap, rfl, hd⟩ := (sliceA_rep hx hsl).slice_inv
              have hcapl : l.length ≤ cap := by
                rcases hd with rfl | ⟨g, off, rfl, hcap, _⟩
                · simp
                · exact hcap
              have hrun := run_bounds (P := P) (w := w) true l.length cap _ _ lv hv hlo hhi h0 h1 h2 hcapl
              have hlen : ((l.drop lv.toNat).take (hv.toNat - lv.toNat)).length = hv.toNat - lv.toNat := by simp; omega
              refine .pure c.rolt c.fresh (val := .slice (if cap = lv.toNat then ad else ad.map (·.add (lv.toNat * E.size t))) (hv.toNat - lv.toNat) (cap - lv.toNat)) ?_ rfl rfl (.d _ _ ?_)
              · simp [execOp, ho, hvx, Instr.sliceAt, Instr.slice, run_underlying hu, hrun, run_size_tid]
              · by_cases hz : hv.toNat - lv.toNat = 0
                · rw [hz, List.take_zero]
                  exact .nil _ _ _
                · rcases hd with rfl | ⟨g, off, rfl, hcap, f, f1, f2⟩
                  · simp at h2; omega
                  · rw [if_neg (by omega)]
                    have e3 : (some (⟨g, off, none⟩ : Addr)).map (·.add (lv.toNat * E.size t)) = some ⟨g, off + lv.toNat * E.size t, none⟩ := by simp [add_none]
                    rw [e3]
                    have key := fun i x (hi : ((l.drop lv.toNat).take (hv.toNat - lv.toNat))[i]? = some x) => (show l[lv.toNat + i]? = some x by
                      have hlt : i < hv.toNat - lv.toNat := by rw [← hlen]; exact (List.getElem?_eq_some_iff.1 hi).1
                      rw [List.getElem?_take_of_lt hlt, List.getElem?_drop] at hi
                      exact hi)
                    have := DRep.slice (E := E) (w := w) (ro := ro) t ((l.drop lv.toNat).take (hv.toNat - lv.toNat)) g (off + lv.toNat * E.size t) (cap - lv.toNat) (fun i j => f (lv.toNat + i) j) (by rw [hlen]; omega)
                      (fun i x j c hi hc => by
                        have h3 := f1 _ x j c (key i x hi) hc
                        have e4 : off + lv.toNat * E.size t + i * E.size t + j = off + (lv.toNat + i) * E.size t + j := by rw [Nat.add_mul]; omega
                        rw [e4]
                        exact h3)
                      (fun i x j c hi hc => f2 _ x j c (key i x hi) hc)
                    rw [hlen] at this
                    exact this
            · cases h
          · cases h
        · cases h
      · cases h
end
end Go.Proofs.Ytnkdghkliihnaaa.Mir
