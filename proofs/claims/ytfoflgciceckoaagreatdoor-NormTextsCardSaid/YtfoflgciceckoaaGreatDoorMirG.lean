/- The Mirror, part G: slices (indexes, cuts, lengths, literals, append) and calls. -/
import Derived.Test.YtfoflgciceckoaaGreatDoorMirF
import Derived.Laws.BytesArg
import Derived.Laws.StructEq
import Derived.ChangeKeysEq
namespace Go.Proofs.YtfoflgciceckoaaGreatDoor.Mir
open Go Go.RowKit

section
variable {P : Program} {E : Env P} {w : World} {ro : Nat → Nat → Prop} {ι : Nat → Option Gh} {S : ASt E} {asm : List (Nat × Bool)} {a : Act}

theorem sliceA_rep {v : Value} {x : AV E} {e : TypeId} {t : E.Ty} {l : List (E.Den t)} (h : Rep E w ro ι v x) (hs : sliceA e x = some ⟨t, l⟩) : DRep E w ro v (.slice t l) := by
  unfold sliceA at hs
  split at hs
  · cases hs; exact toD_rep h rfl
  · cases hs; exact toD_rep h rfl
  · have := h.raw_inv
    subst this
    split at hs
    · cases hs; exact .nil _ _ _
    · cases hs
  · cases hs

/-- What a slice that reads as a list is. -/
theorem DRep.slice_inv {v : Value} {t : E.Ty} {l : List (E.Den t)} (h : DRep E w ro v (.slice t l)) : ∃ ad cap, v = .slice ad l.length cap ∧ (l = [] ∨ ∃ g off, ad = some ⟨g, off, none⟩ ∧ l.length ≤ cap ∧ ∃ f : Nat → Nat → Value,
    (∀ i x j c, l[i]? = some x → (E.cells t x)[j]? = some c → ro g (off + i * E.size t + j) ∧ w.cell? ⟨g, off + i * E.size t + j, none⟩ = some (f i j)) ∧
    (∀ i x j c, l[i]? = some x → (E.cells t x)[j]? = some c → DRep E w ro (f i j) c)) := by
  cases h with
  | nil t a cap => exact ⟨a, cap, rfl, .inl rfl⟩
  | slice t l g off cap f hl h1 h2 => exact ⟨_, cap, rfl, .inr ⟨g, off, rfl, hl, f, h1, h2⟩⟩

theorem elemT_inv {T e : TypeId} (h : elemT P T = some e) : P.underlying T = some (.slice e) := by
  unfold elemT at h
  cases hu : P.underlying T with
  | none => rw [hu] at h; cases h
  | some d => rw [hu] at h; cases d <;> first | (cases h; done) | (cases h; rfl)

theorem isStrT_inv {T : TypeId} (h : isStrT P T = true) : P.underlying T = some .string := by
  unfold isStrT at h
  cases hu : P.underlying T with
  | none => rw [hu] at h; cases h
  | some d => rw [hu] at h; cases d <;> first | (cases h; done) | rfl

theorem run_size_tid (t : E.Ty) : (sizeOf (E.tid t)).run P w = .ok (E.size t) w := by
  obtain ⟨i, z, hi, hs, _⟩ := E.info_ok t
  rw [run_sizeOf hi, hs]

theorem getD_get {α : Type} {l : List α} {i : Nat} (h : i < l.length) (d : α) : l[i]? = some (l.getD i d) := by
  rw [List.getD, List.getElem?_eq_getElem h]; rfl

theorem done_indexAddr (c : Ctx E S asm a w ι ro) {o : Oper} {T : TypeId} {x i : Operand} (ho : o.op = .indexAddr T x i) {r : Bool × AV E} (h : evIndexAddr T (getA S.tmps asm x) (getA S.tmps asm i) = some r) (hok : r.1 = true) :
    OpDone E o a w ι ro S.next (.test r.1 r.2) := by
  obtain ⟨ok, r⟩ := r
  have hx := c.get x
  have hi := c.get i
  generalize hvx : a.eval x = vx at hx
  generalize hvi : a.eval i = vi at hi
  generalize getA S.tmps asm x = X at *
  generalize getA S.tmps asm i = I at *
  unfold evIndexAddr at h
  split at h
  · rename_i e k n he
    have e1 := hi.int_inv
    subst e1
    split at h
    · rename_i t len id
      split at h
      · rename_i ht
        have ht := Nat.eq_of_beq_eq_true ht
        subst ht
        cases h
        simp only [Bool.and_eq_true, decide_eq_true_eq] at hok
        obtain ⟨h0, h1⟩ := hok
        have hu := elemT_inv he
        cases hx with
        | row gh _ _ ad cap hi hge hgs hgv had =>
          have hlt : n.toNat < gh.n := by omega
          obtain ⟨g, rfl⟩ := had (by omega)
          refine .pure c.rolt c.fresh (val := .pointer (some ⟨g, n.toNat * gh.sz + 0, none⟩)) ?_ rfl rfl (.elt gh g id n.toNat 0 cap hi hgv hlt)
          simp [execOp, ho, hvx, hvi, hgv, Instr.indexAt, asIntOf, run_underlying hu, h0, h1, run_size_tid, add_none, hgs]
      · cases h
    · split at h
      · rename_i t l hsl
        split at h
        · rename_i ht
          have ht := Nat.eq_of_beq_eq_true ht
          subst ht
          cases h
          simp only [Bool.and_eq_true, decide_eq_true_eq] at hok
          obtain ⟨h0, h1⟩ := hok
          have hu := elemT_inv he
          obtain ⟨ad, cap, rfl, hd⟩ := (sliceA_rep hx hsl).slice_inv
          rcases hd with rfl | ⟨g, off, rfl, hcap, f, f1, f2⟩
          · simp at h1; omega
          · have hlt : n.toNat < l.length := by omega
            have hg := getD_get hlt (E.dflt t)
            refine .pure c.rolt c.fresh (val := .pointer (some ⟨g, off + n.toNat * E.size t, none⟩)) ?_ rfl rfl
              (.pelt g _ (f n.toNat) _ (fun j c hc => f1 _ _ j c hg hc) (fun j c hc => f2 _ _ j c hg hc))
            simp [execOp, ho, hvx, hvi, Instr.indexAt, asIntOf, run_underlying hu, h0, h1, run_size_tid, add_none]
        · cases h
      · cases h
  · cases h

theorem arrT_inv {T : TypeId} {n : Nat} {e : TypeId} (h : arrT P T = some (n, e)) : P.underlying T = some (.array n e) := by
  unfold arrT at h
  split at h
  · rename_i hu; cases h; exact hu
  · cases h

theorem done_indexArr (c : Ctx E S asm a w ι ro) {o : Oper} {T : TypeId} {x i : Operand} (ho : o.op = .indexAddr T x i) {r : Bool × AV E} (h : evIndexArr T (getA S.tmps asm x) (getA S.tmps asm i) = some r) (hok : r.1 = true) :
    OpDone E o a w ι ro S.next (.test r.1 r.2) := by
  obtain ⟨ok, r⟩ := r
  have hx := c.get x
  have hi := c.get i
  generalize hvx : a.eval x = vx at hx
  generalize hvi : a.eval i = vi at hi
  generalize getA S.tmps asm x = X at *
  generalize getA S.tmps asm i = I at *
  unfold evIndexArr at h
  split at h
  · rename_i len e k n hT
    have e1 := hi.int_inv
    subst e1
    split at h
    · rename_i id off
      split at h
      · rename_i size hs
        split at h
        · rename_i h2
          cases h
          simp only [Bool.and_eq_true, decide_eq_true_eq] at hok
          obtain ⟨h0, h1⟩ := hok
          obtain ⟨ti, d, hinfo, hd, hin⟩ := sizeT_inv hs
          have hu := arrT_inv hT
          have hl : ¬ len ≤ 1 := by have := Nat.le_of_ble_eq_true h2; omega
          cases hx with
          | ptr gh g _ _ hgi hgv =>
            exact .pure c.rolt c.fresh (val := .pointer (some ⟨g, off + n.toNat * size, none⟩)) (by simp [execOp, ho, hvx, hvi, Instr.indexAt, asIntOf, run_underlying hu, Instr.sureAddr, h0, h1, run_sizeOf hinfo, hin, add_none]) rfl rfl (.ptr gh g id _ hgi hgv)
        · cases h
      · cases h
    · cases h
  · cases h

theorem done_index (c : Ctx E S asm a w ι ro) {o : Oper} {T : TypeId} {x i : Operand} (ho : o.op = .index T x i) {r : Bool × AV E} (h : evIndex T (getA S.tmps asm x) (getA S.tmps asm i) = some r) (hok : r.1 = true) :
    OpDone E o a w ι ro S.next (.test r.1 r.2) := by
  obtain ⟨ok, r⟩ := r
  have hx := c.get x
  have hi := c.get i
  generalize hvx : a.eval x = vx at hx
  generalize hvi : a.eval i = vi at hi
  generalize getA S.tmps asm x = X at *
  generalize getA S.tmps asm i = I at *
  unfold evIndex at h
  split at h
  · rename_i hT
    split at h
    · rename_i s k n
      have e1 := hi.int_inv
      have e2 := hx.str_inv
      subst e1; subst e2
      cases h
      simp only [Bool.and_eq_true, decide_eq_true_eq] at hok
      obtain ⟨h0, h1⟩ := hok
      have hlt : n.toNat < s.length := by omega
      have hg := getD_get hlt 0
      refine .pure c.rolt c.fresh (val := .int .u8 (s.getD n.toNat 0).toNat) ?_ rfl rfl (.d _ _ (.int _ _))
      have hb : (⟨s.toArray⟩ : ByteArray)[n.toNat]? = some (s.getD n.toNat 0) := by
        have hlt' : n.toNat < (ByteArray.mk s.toArray).size := by show n.toNat < s.toArray.size; simpa using hlt
        have e3 : (ByteArray.mk s.toArray)[n.toNat]? = some ((ByteArray.mk s.toArray)[n.toNat]'hlt') := by rw [getElem?_pos]
        rw [e3]
        have e4 : (ByteArray.mk s.toArray)[n.toNat]'hlt' = s[n.toNat] := rfl
        rw [e4]
        rw [List.getElem?_eq_getElem hlt] at hg
        exact hg
      simp only [execOp, ho, hvx, hvi, Instr.index, asIntOf]
      simp only [Sem.run_bind, Sem.run_pure, Result.andThen_ok, run_underlying (isStrT_inv hT), if_pos h0, hb]
    · cases h
  · cases h

theorem eltsA_at {e : TypeId} {t : E.Ty} {sz : Nat} : ∀ {n : Nat} {cs : List (AV E)} {xs : List (E.Den t)}, eltsA e t sz n cs = some xs → xs.length = n ∧ ∀ (k : Nat) y, xs[k]? = some y → ∃ v, takeA e (cs.drop (k * sz)) = some v ∧ foldA t v = some y
  | 0, cs, xs, h => by
    cases h
    exact ⟨rfl, fun k y hy => by simp at hy⟩
  | n + 1, cs, xs, h => by
    unfold eltsA at h
    split at h
    · rename_i v hv
      split at h
      · rename_i x hx
        split at h
        · rename_i ys hys
          cases h
          obtain ⟨h1, h2⟩ := eltsA_at hys
          refine ⟨by simp [h1], fun k y hy => ?_⟩
          cases k with
          | zero =>
            simp at hy
            subst hy
            exact ⟨v, by simpa using hv, hx⟩
          | succ k =>
            obtain ⟨u, hu, hf⟩ := h2 k y (by simpa using hy)
            refine ⟨u, ?_, hf⟩
            rw [List.drop_drop] at hu
            rw [Nat.succ_mul, Nat.add_comm]
            exact hu
        · cases h
      · cases h
    · cases h

theorem done_indexV (c : Ctx E S asm a w ι ro) {o : Oper} {T : TypeId} {x i : Operand} (ho : o.op = .index T x i) {r : Bool × AV E} (h : evIndexV T (getA S.tmps asm x) (getA S.tmps asm i) = some r) (hok : r.1 = true) :
    OpDone E o a w ι ro S.next (.test r.1 r.2) := by
  obtain ⟨ok, r⟩ := r
  have hx := c.get x
  have hi := c.get i
  generalize hvx : a.eval x = vx at hx
  generalize hvi : a.eval i = vi at hi
  generalize getA S.tmps asm x = X at *
  generalize getA S.tmps asm i = I at *
  unfold evIndexV at h
  split at h
  · rename_i len e k n hT
    have e1 := hi.int_inv
    subst e1
    have hu := arrT_inv hT
    split at h
    · rename_i t sz cs ht hs hcs
      obtain ⟨ti, d, hinfo, hd, hin⟩ := sizeT_inv hs
      obtain ⟨k1, k2⟩ := cellsA_rep hx hcs
      have hrel : Rel E w ro ι vx.cells cs := ⟨k1, fun j v x hv hx => (k2 j v x hv hx).2⟩
      have main : ∀ xs : List (E.Den t), (∃ us, vx = .agg us) → eltsA e t sz len cs = some xs → (decide (0 ≤ n) && decide (n < len)) = true →
          OpDone E o a w ι ro S.next (.test (decide (0 ≤ n) && decide (n < len)) (expandA t (xs.getD n.toNat (E.dflt t)))) := by
        rintro xs ⟨us, rfl⟩ he hok
        simp only [Bool.and_eq_true, decide_eq_true_eq] at hok
        obtain ⟨h0, h1⟩ := hok
        obtain ⟨hl, hat⟩ := eltsA_at he
        have hlt : n.toNat < xs.length := by omega
        obtain ⟨v, hv, hf⟩ := hat n.toNat _ (getD_get hlt (E.dflt t))
        obtain ⟨val, hrun, hr⟩ := run_part (P := P) hrel hv
        simp only [Value.cells] at hrun
        exact .pure c.rolt c.fresh (val := val) (by simp [execOp, ho, hvx, hvi, Instr.index, asIntOf, run_underlying hu, h0, h1, run_sizeOf hinfo, hin, hrun]) rfl rfl (expandA_rep (foldA_rep hr hf))
      split at h
      · split at h
        · rename_i xs he
          cases h
          cases hx with
          | st vs t y ha hrow => exact main xs ⟨_, rfl⟩ he hok
        · cases h
      · split at h
        · rename_i xs he
          cases h
          cases hx with
          | agg vs cs' hs hi => exact main xs ⟨_, rfl⟩ he hok
        · cases h
      · cases h
    · cases h
  · cases h

theorem floatEq_isf {x y : Nat} {a b : Int} (hx : F64.IsF x a) (hy : F64.IsF y b) (ha : fltOk a = true) (hb : fltOk b = true) : Op.floatEq .f64 x y = (a == b) := by
  simp only [fltOk, decide_eq_true_eq] at ha hb
  unfold Op.floatEq
  rw [F64.isf_order hx hy ha hb]
  exact cmp_eq a b

theorem eqS_sound {T : TypeId} {x y : AV E} {o b : Bool} (h : eqS T x y = some (o, b)) (ho : o = true) {vx vy : Value} (hx : Rep E w ro ι vx x) (hy : Rep E w ro ι vy y) (d : Nat) : (Op.equalIn (d + 1) T vx vy).run P w = .ok b w := by
  unfold eqS at h
  split at h
  · rename_i hu
    split at h
    · cases h; rw [hx.bool_inv, hy.bool_inv]; simp [Op.equalIn, run_underlying hu]
    · cases h
  · rename_i k hu
    split at h
    · rename_i k1 a k2 b'
      split at h
      · rename_i hk
        have hkk : k1 = k2 := by simpa [sameKind] using hk
        subst hkk
        cases h; rw [hx.int_inv, hy.int_inv]; simp [Op.equalIn, run_underlying hu]
      · cases h
    · cases h
  · rename_i hu
    split at h
    · rename_i a b'
      cases h; rw [hx.str_inv, hy.str_inv, run_equalIn_string w d T _ _ hu]
      simp [ByteArray.toList_eq]
    · cases h
  · rename_i k hu
    split at h
    · rename_i a b'
      cases h
      simp only [Bool.and_eq_true] at ho
      obtain ⟨x', e1, hx'⟩ := hx.flt_inv
      obtain ⟨y', e2, hy'⟩ := hy.flt_inv
      rw [e1, e2]
      simp [Op.equalIn, run_underlying hu, floatEq_isf hx' hy' ho.1 ho.2]
    · cases h
  · rename_i k hu
    split at h
    · rename_i a1 a2 b1 b2
      cases h
      simp only [Bool.and_eq_true] at ho
      obtain ⟨x1, x2, e1, hx1, hx2⟩ := hx.cpx_inv
      obtain ⟨y1, y2, e2, hy1, hy2⟩ := hy.cpx_inv
      rw [e1, e2]
      simp [Op.equalIn, run_underlying hu, floatEq_isf hx1 hy1 ho.1.1 ho.1.2, floatEq_isf hx2 hy2 ho.2.1 ho.2.2]
    · cases h
  · cases h

def RecOk (E : Env P) (w : World) (ro : Nat → Nat → Prop) (ι : Nat → Option Gh) (rec : TypeId → AV E → AV E → Option (Bool × Bool)) (D : Nat) : Prop :=
  ∀ T x y o b, rec T x y = some (o, b) → o = true → ∀ vx vy, Rep E w ro ι vx x → Rep E w ro ι vy y → (Op.equalIn D T vx vy).run P w = .ok b w

theorem eqFs_sound {rec : TypeId → AV E → AV E → Option (Bool × Bool)} {D : Nat} (hrec : RecOk E w ro ι rec D) {vs us : Array Value} {xs ys : List (AV E)} (hv : Rel E w ro ι vs xs) (hu : Rel E w ro ι us ys) :
    ∀ (fs : List Field) (o b : Bool), eqFs rec fs xs ys = some (o, b) → o = true → (Op.eqFields D vs us fs).run P w = .ok b w
  | [], o, b, h, _ => by
    cases h
    simp [Op.eqFields]
  | f :: r, o, b, h, ho => by
    unfold eqFs at h
    split at h
    · rename_i hn
      have ih := eqFs_sound hrec hv hu r o b h ho
      simpa [Op.eqFields, hn] using ih
    · rename_i hn
      split at h
      · rename_i a1 a2 h1 h2
        split at h
        · rename_i o1 b1 o2 b2 h3 h4
          cases h
          simp only [Bool.and_eq_true] at ho
          obtain ⟨v1, r1, p1⟩ := run_part (P := P) hv h1
          obtain ⟨v2, r2, p2⟩ := run_part (P := P) hu h2
          have h5 := hrec f.type a1 a2 o1 b1 h3 ho.1 v1 v2 p1 p2
          have ih := eqFs_sound hrec hv hu r o2 b2 h4 ho.2
          simp only [Op.eqFields]
          rw [if_pos hn]
          simp only [Sem.run_bind, r1, r2, h5, Result.andThen_ok]
          cases b1
          · simp
          · simpa using ih
        · cases h
      · cases h

theorem eqEs_sound {rec : TypeId → AV E → AV E → Option (Bool × Bool)} {D : Nat} (hrec : RecOk E w ro ι rec D) {vs us : Array Value} {xs ys : List (AV E)} (hv : Rel E w ro ι vs xs) (hu : Rel E w ro ι us ys) {e : TypeId} {sz : Nat} :
    ∀ (n j : Nat) (o b : Bool), eqEs rec e sz n (xs.drop (j * sz)) (ys.drop (j * sz)) = some (o, b) → o = true → (Op.eqItems D e sz vs us (List.range' j n)).run P w = .ok b w
  | 0, j, o, b, h, _ => by
    cases h
    simp [Op.eqItems]
  | n + 1, j, o, b, h, ho => by
    unfold eqEs at h
    split at h
    · rename_i a1 a2 h1 h2
      split at h
      · rename_i o1 b1 o2 b2 h3 h4
        cases h
        simp only [Bool.and_eq_true] at ho
        obtain ⟨v1, r1, p1⟩ := run_part (P := P) hv h1
        obtain ⟨v2, r2, p2⟩ := run_part (P := P) hu h2
        have h5 := hrec e a1 a2 o1 b1 h3 ho.1 v1 v2 p1 p2
        rw [List.drop_drop, List.drop_drop, show j * sz + sz = (j + 1) * sz from by rw [Nat.succ_mul]] at h4
        have ih := eqEs_sound hrec hv hu n (j + 1) o2 b2 h4 ho.2
        rw [List.range'_succ]
        simp only [Op.eqItems, Sem.run_bind, r1, r2, h5, Result.andThen_ok]
        cases b1
        · simp
        · simpa using ih
      · cases h
    · cases h

theorem aggC_rel {x : AV E} {v : Value} {xs : List (AV E)} (h : aggC x = some xs) (hv : Rep E w ro ι v x) : ∃ vs, v = .agg vs ∧ Rel E w ro ι vs xs := by
  cases hv with
  | st vs t y ha hrow =>
    obtain ⟨k1, k2⟩ := cellsA_rep (.st vs t y ha hrow) h
    exact ⟨vs, rfl, k1, fun j v x hv hx => (k2 j v x hv hx).2⟩
  | agg vs cs hs hi =>
    obtain ⟨k1, k2⟩ := cellsA_rep (.agg vs cs hs hi) h
    exact ⟨vs, rfl, k1, fun j v x hv hx => (k2 j v x hv hx).2⟩
  | _ => cases h

theorem evEq_sound : ∀ (d k : Nat), RecOk E w ro ι (evEq d) (d + k)
  | 0, _, T, x, y, o, b, h, _, _, _, _, _ => by cases h
  | d + 1, k, T, x, y, o, b, h, ho, vx, vy, hx, hy => by
    have e : d + 1 + k = d + k + 1 := by omega
    rw [e]
    unfold evEq at h
    split at h
    · rename_i fs hu
      split at h
      · rename_i xs ys hp h1 h2
        obtain ⟨vs, rfl, hv⟩ := aggC_rel h1 hx
        obtain ⟨us, rfl, hw⟩ := aggC_rel h2 hy
        have hf : P.fieldsOf T = fs := by simp [Program.fieldsOf, hu]
        rw [run_equalIn_struct w (d + k) T vs us (by rw [hf]; exact hu) hp, hf]
        exact eqFs_sound (evEq_sound d k) hv hw _ _ _ h ho
      · cases h
    · rename_i n e' hu
      split at h
      · rename_i sz xs ys hs h1 h2
        obtain ⟨vs, rfl, hv⟩ := aggC_rel h1 hx
        obtain ⟨us, rfl, hw⟩ := aggC_rel h2 hy
        obtain ⟨i, dd, hi, hd, hn⟩ := sizeT_inv hs
        have hc : P.cellsOf e' = sz := by simp [Program.cellsOf, hi, hn]
        rw [run_equalIn_array w (d + k) vs us hu hi, hc, List.range_eq_range']
        refine eqEs_sound (evEq_sound d k) hv hw n 0 o b ?_ ho
        simpa using h
      · cases h
    · exact eqS_sound h ho hx hy _

theorem done_binEq (c : Ctx E S asm a w ι ro) {o : Oper} {op : BinOp} {T T' : TypeId} {x y : Operand} (ho : o.op = .binOp op T x y T') {r : Bool × AV E} (h : evBinEq op T (getA S.tmps asm x) (getA S.tmps asm y) = some r) (hok : r.1 = true) :
    OpDone E o a w ι ro S.next (.test r.1 r.2) := by
  obtain ⟨ok, r⟩ := r
  have hx := c.get x
  have hy := c.get y
  generalize hvx : a.eval x = vx at hx
  generalize hvy : a.eval y = vy at hy
  generalize getA S.tmps asm x = X at *
  generalize getA S.tmps asm y = Y at *
  unfold evBinEq at h
  split at h
  · rename_i xs ys hm h1 h2
    obtain ⟨vs, rfl, _⟩ := aggC_rel h1 hx
    obtain ⟨us, rfl, _⟩ := aggC_rel h2 hy
    split at h
    · split at h
      · rename_i o' b hb
        cases h
        have hr := evEq_sound (P := P) 8 9992 T X Y _ b hb hok _ _ hx hy
        have hr' : (Op.equal T (.agg vs) (.agg us)).run P w = .ok b w := hr
        refine .pure c.rolt c.fresh (val := .bool b) ?_ rfl rfl (.d _ _ (.bool _))
        simp [execOp, ho, hvx, hvy, eqGuard, run_program, hm, binOp, hr']
      · cases h
    · split at h
      · rename_i o' b hb
        cases h
        have hr := evEq_sound (P := P) 8 9992 T X Y _ b hb hok _ _ hx hy
        have hr' : (Op.equal T (.agg vs) (.agg us)).run P w = .ok b w := hr
        refine .pure c.rolt c.fresh (val := .bool !b) ?_ rfl rfl (.d _ _ (.bool _))
        simp [execOp, ho, hvx, hvy, eqGuard, run_program, hm, binOp, hr']
      · cases h
    · cases h
  · cases h

theorem done_len (c : Ctx E S asm a w ι ro) {o : Oper} {T : TypeId} {x : Operand} {cs : Array TypeId} (ho : o.op = .call { callee := .builtin .len, args := #[x], argTypes := cs }) (hcs : cs.toList = [T]) {r : AV E} (h : evLen T (getA S.tmps asm x) = some r) :
    OpDone E o a w ι ro S.next (.pure r) := by
  have hx := c.get x
  generalize hvx : a.eval x = vx at hx
  generalize getA S.tmps asm x = X at *
  obtain rfl : cs = #[T] := by cases cs; simp at hcs; simp [hcs]
  unfold evLen at h
  split at h
  · rename_i hT
    split at h
    · rename_i s
      have e2 := hx.str_inv
      subst e2
      cases h
      refine c.pure (val := .int .i64 s.length) ?_ (.d _ _ (.int _ _))
      have hsz : (⟨s.toArray⟩ : ByteArray).size = s.length := by show s.toArray.size = _; simp
      simp [execOp, ho, hvx, resolve, invoke, builtin, Builtin.len_, run_underlying (isStrT_inv hT), goInt, hsz]
    · cases h
  · split at h
    · rename_i e he
      split at h
      · rename_i t n id
        cases h
        have hu := elemT_inv he
        cases hx with
        | row gh _ _ ad cap hi hge hgs hgv had =>
          exact c.pure (val := .int .i64 gh.n) (by simp [execOp, ho, hvx, hgv, resolve, invoke, builtin, Builtin.len_, run_underlying hu, goInt]) (.d _ _ (.int _ _))
      · split at h
        · rename_i t l hsl
          cases h
          have hu := elemT_inv he
          obtain ⟨ad, cap, rfl, hd⟩ := (sliceA_rep hx hsl).slice_inv
          exact c.pure (val := .int .i64 l.length) (by simp [execOp, ho, hvx, resolve, invoke, builtin, Builtin.len_, run_underlying hu, goInt]) (.d _ _ (.int _ _))
        · cases h
    · cases h

theorem optA_some (c : Ctx E S asm a w ι ro) (x : Option Operand) {len : Nat} {m : Int} :
    (loA (optA S.tmps asm x) = some m → (x.map a.eval = none ∧ m = 0) ∨ ∃ k, x.map a.eval = some (.int k m)) ∧
    (hiA len (optA S.tmps asm x) = some m → (x.map a.eval = none ∧ m = len) ∨ ∃ k, x.map a.eval = some (.int k m)) := by
  cases x with
  | none => exact ⟨fun h => by cases h; exact .inl ⟨rfl, rfl⟩, fun h => by cases h; exact .inl ⟨rfl, rfl⟩⟩
  | some x =>
    have hx := c.get x
    refine ⟨fun h => ?_, fun h => ?_⟩
    · simp only [optA, loA] at h
      split at h
      · rename_i hq; cases hq
      · rename_i k q hq
        cases h
        cases hq2 : getA S.tmps asm x with
        | d cv =>
          rw [hq2] at hq hx
          cases hq
          exact .inr ⟨k, by simp [hx.int_inv]⟩
        | _ => rw [hq2] at hq; cases hq
      · cases h
    · simp only [optA, hiA] at h
      split at h
      · rename_i hq; cases hq
      · rename_i k q hq
        cases h
        cases hq2 : getA S.tmps asm x with
        | d cv =>
          rw [hq2] at hq hx
          cases hq
          exact .inr ⟨k, by simp [hx.int_inv]⟩
        | _ => rw [hq2] at hq; cases hq
      · cases h

theorem run_bounds (isSlice : Bool) (len cap : Nat) (low high : Option Value) (l h : Int) (hl : (low = none ∧ l = 0) ∨ ∃ k, low = some (.int k l)) (hh : (high = none ∧ h = len) ∨ ∃ k, high = some (.int k h))
    (h0 : 0 ≤ l) (h1 : l ≤ h) (h2 : h ≤ len) (hcap : len ≤ cap) : (Instr.sliceBounds isSlice len cap low high none).run P w = .ok (l.toNat, h.toNat, cap) w := by
  have e1 : (h.toNat : Int) = h := Int.toNat_of_nonneg (by omega)
  rcases hl with ⟨rfl, rfl⟩ | ⟨k1, rfl⟩ <;> rcases hh with ⟨rfl, rfl⟩ | ⟨k2, rfl⟩
  · simp [Instr.sliceBounds]
  · have hc : 0 ≤ h ∧ h ≤ (cap : Int) := ⟨by omega, by omega⟩
    simp [Instr.sliceBounds, Instr.sliceBound, asIntOf, hc.1, hc.2]
  · simp [Instr.sliceBounds, Instr.sliceBound, asIntOf, h0, h1]
  · have hc : 0 ≤ h ∧ h ≤ (cap : Int) := ⟨by omega, by omega⟩
    simp [Instr.sliceBounds, Instr.sliceBound, asIntOf, hc.1, hc.2, h0, e1, h1]

theorem done_slice (c : Ctx E S asm a w ι ro) {o : Oper} {T : TypeId} {x : Operand} {lo hi mx : Option Operand} (ho : o.op = .slice T x lo hi mx) {r : Bool × AV E}
    (h : evSlice T (getA S.tmps asm x) (optA S.tmps asm lo) (optA S.tmps asm hi) (optA S.tmps asm mx) = some r) (hok : r.1 = true) : OpDone E o a w ι ro S.next (.test r.1 r.2) := by
  obtain ⟨ok, r⟩ := r
  have hx := c.get x
  generalize hvx : a.eval x = vx at hx
  generalize getA S.tmps asm x = X at *
  unfold evSlice at h
  cases mx with
  | some m => simp only [optA] at h; cases h
  | none =>
    simp only [optA] at h
    split at h
    · rename_i hT
      split at h
      · rename_i s
        have e2 := hx.str_inv
        subst e2
        split at h
        · rename_i l hh hl' hh'
          cases h
          simp only [Bool.and_eq_true, decide_eq_true_eq] at hok
          obtain ⟨⟨h0, h1⟩, h2⟩ := hok
          have hlo := (optA_some c lo (len := s.length) (m := l)).1 hl'
          have hhi := (optA_some c hi (len := s.length) (m := hh)).2 hh'
          have hsz : (ByteArray.mk s.toArray).size = s.length := by show s.toArray.size = _; simp
          have hrun := run_bounds (P := P) (w := w) false s.length s.length _ _ l hh hlo hhi h0 h1 h2 (Nat.le_refl _)
          refine .pure c.rolt c.fresh (val := .string ⟨((s.drop l.toNat).take (hh.toNat - l.toNat)).toArray⟩) ?_ rfl rfl (.d _ _ (.str _))
          have hext := Lib.extract_eq ⟨s.toArray⟩ l.toNat hh.toNat
          simp only at hext
          simp [execOp, ho, hvx, Instr.sliceAt, Instr.slice, run_underlying (isStrT_inv hT), hsz, hrun, hext]
        · cases h
      · cases h
    · split at h
      · rename_i e he
        split at h
        · rename_i t l hsl
          split at h
          · rename_i ht
            have ht := Nat.eq_of_beq_eq_true ht
            subst ht
            split at h
            · rename_i lv hv hl' hh'
              cases h
              simp only [Bool.and_eq_true, decide_eq_true_eq] at hok
              obtain ⟨⟨h0, h1⟩, h2⟩ := hok
              have hlo := (optA_some c lo (len := l.length) (m := lv)).1 hl'
              have hhi := (optA_some c hi (len := l.length) (m := hv)).2 hh'
              have hu := elemT_inv he
              obtain ⟨ad, cap, rfl, hd⟩ := (sliceA_rep hx hsl).slice_inv
              have hcapl : l.length ≤ cap := by
                rcases hd with rfl | ⟨g, off, rfl, hcap, _⟩
                · simp
                · exact hcap
              have hrun := run_bounds (P := P) (w := w) true l.length cap _ _ lv hv hlo hhi h0 h1 h2 hcapl
              have hlen : ((l.drop lv.toNat).take (hv.toNat - lv.toNat)).length = hv.toNat - lv.toNat := by simp; omega
              refine .pure c.rolt c.fresh (val := .slice (if cap = lv.toNat then ad else ad.map (·.add (lv.toNat * E.size t))) (hv.toNat - lv.toNat) (cap - lv.toNat)) ?_ rfl rfl (.d _ _ ?_)
              · simp [execOp, ho, hvx, Instr.sliceAt, Instr.slice, run_underlying hu, hrun, run_size_tid]
              · by_cases hz : hv.toNat - lv.toNat = 0
                · rw [hz, List.take_zero]
                  exact .nil _ _ _
                · rcases hd with rfl | ⟨g, off, rfl, hcap, f, f1, f2⟩
                  · simp at h2; omega
                  · rw [if_neg (by omega)]
                    have e3 : (some (⟨g, off, none⟩ : Addr)).map (·.add (lv.toNat * E.size t)) = some ⟨g, off + lv.toNat * E.size t, none⟩ := by simp [add_none]
                    rw [e3]
                    have key := fun i x (hi : ((l.drop lv.toNat).take (hv.toNat - lv.toNat))[i]? = some x) => (show l[lv.toNat + i]? = some x by
                      have hlt : i < hv.toNat - lv.toNat := by rw [← hlen]; exact (List.getElem?_eq_some_iff.1 hi).1
                      rw [List.getElem?_take_of_lt hlt, List.getElem?_drop] at hi
                      exact hi)
                    have := DRep.slice (E := E) (w := w) (ro := ro) t ((l.drop lv.toNat).take (hv.toNat - lv.toNat)) g (off + lv.toNat * E.size t) (cap - lv.toNat) (fun i j => f (lv.toNat + i) j) (by rw [hlen]; omega)
                      (fun i x j c hi hc => by
                        have h3 := f1 _ x j c (key i x hi) hc
                        have e4 : off + lv.toNat * E.size t + i * E.size t + j = off + (lv.toNat + i) * E.size t + j := by rw [Nat.add_mul]; omega
                        rw [e4]
                        exact h3)
                      (fun i x j c hi hc => f2 _ x j c (key i x hi) hc)
                    rw [hlen] at this
                    exact this
            · cases h
          · cases h
        · cases h
      · cases h

theorem foldCs_at {t : E.Ty} : ∀ {cs : List (DVal E.Den)} {l : List (E.Den t)}, foldCs t cs = some l → l.length = cs.length ∧ ∀ (i : Nat) x, l[i]? = some x → ∃ c, cs[i]? = some c ∧ CsLe [c] (E.cells t x)
  | [], l, h => by cases h; exact ⟨rfl, fun i x hx => by simp at hx⟩
  | c :: r, l, h => by
    unfold foldCs at h
    split at h
    · rename_i x hx
      split at h
      · rename_i xs hxs
        cases h
        obtain ⟨h1, h2⟩ := foldCs_at hxs
        refine ⟨by simp [h1], fun i y hy => ?_⟩
        cases i with
        | zero => simp at hy; subst hy; exact ⟨c, rfl, E.fold_ok _ _ _ hx⟩
        | succ i => exact h2 i y (by simpa using hy)
      · cases h
    · cases h
theorem done_sliceA (c : Ctx E S asm a w ι ro) {o : Oper} {T : TypeId} {x : Operand} {lo hi mx : Option Operand} (ho : o.op = .slice T x lo hi mx) {r : Bool × AV E}
    (h : evSliceA T (getA S.tmps asm x) (optA S.tmps asm lo) (optA S.tmps asm hi) (optA S.tmps asm mx) = some r) (hok : r.1 = true) : OpDone E o a w ι ro S.next (.test r.1 r.2) := by
  obtain ⟨ok, r⟩ := r
  have hx := c.get x
  generalize hvx : a.eval x = vx at hx
  generalize getA S.tmps asm x = X at *
  cases mx with
  | some m => unfold evSliceA at h; simp only [optA] at h; cases h
  | none =>
    unfold evSliceA at h
    simp only [optA] at h
    split at h
    · rename_i n e cs _ hT
      split at h
      · rename_i t ht
        split at h
        · rename_i hag hlen
          have hlen := Nat.eq_of_beq_eq_true hlen
          split at h
          · rename_i l hl
            split at h
            · rename_i lv hv hl' hh'
              cases h
              simp only [Bool.and_eq_true, decide_eq_true_eq] at hok
              obtain ⟨⟨h0, h1⟩, h2⟩ := hok
              have hlo := (optA_some c lo (len := n) (m := lv)).1 hl'
              have hhi := (optA_some c hi (len := n) (m := hv)).2 hh'
              have hu : P.underlying T = some (.array n e) := arrT_inv hT
              have he := E.code_ok _ _ ht
              subst he
              have h1s := E.one t hag
              have hrun := run_bounds (P := P) (w := w) false n n _ _ lv hv hlo hhi h0 h1 h2 (Nat.le_refl _)
              obtain ⟨q1, q2⟩ := foldCs_at hl
              cases hx with
              | pelt g off f _ f1 f2 =>
                have hl2 : ((l.drop lv.toNat).take (hv.toNat - lv.toNat)).length = hv.toNat - lv.toNat := by simp; omega
                refine .pure c.rolt c.fresh (val := .slice (some (if n = lv.toNat then ⟨g, off, none⟩ else (⟨g, off, none⟩ : Addr).add (lv.toNat * E.size t))) (hv.toNat - lv.toNat) (n - lv.toNat)) ?_ rfl rfl (.d _ _ ?_)
                · simp [execOp, ho, hvx, Instr.sliceAt, Instr.sureAddr, run_underlying hu, hrun, run_size_tid]
                · by_cases hz : hv.toNat - lv.toNat = 0
                  · rw [hz, List.take_zero]
                    exact .nil _ _ _
                  · rw [if_neg (by omega), add_none, h1s, Nat.mul_one]
                    have key := fun i x (hi : ((l.drop lv.toNat).take (hv.toNat - lv.toNat))[i]? = some x) => (show l[lv.toNat + i]? = some x by
                      have hlt : i < hv.toNat - lv.toNat := by rw [← hl2]; exact (List.getElem?_eq_some_iff.1 hi).1
                      rw [List.getElem?_take_of_lt hlt, List.getElem?_drop] at hi
                      exact hi)
                    have cell : ∀ i x j d, ((l.drop lv.toNat).take (hv.toNat - lv.toNat))[i]? = some x → (E.cells t x)[j]? = some d → j = 0 ∧ ∃ c, cs[lv.toNat + i]? = some c ∧ DLe c d := fun i x j d hi hd => by
                      obtain ⟨c, hc, hle⟩ := q2 _ x (key i x hi)
                      have hj : j < (E.cells t x).length := (List.getElem?_eq_some_iff.1 hd).1
                      rw [E.cells_len, h1s] at hj
                      obtain rfl : j = 0 := by omega
                      exact ⟨rfl, c, hc, hle.at_ 0 c d rfl hd⟩
                    have := DRep.slice (E := E) (w := w) (ro := ro) t ((l.drop lv.toNat).take (hv.toNat - lv.toNat)) g (off + lv.toNat) (n - lv.toNat) (fun i _ => f (lv.toNat + i)) (by rw [hl2]; omega)
                      (fun i x j d hi hd => by
                        obtain ⟨rfl, c, hc, _⟩ := cell i x j d hi hd
                        have := f1 _ c hc
                        rw [h1s, Nat.mul_one, Nat.add_zero, Nat.add_assoc]
                        exact this)
                      (fun i x j d hi hd => by
                        obtain ⟨rfl, c, hc, hle⟩ := cell i x j d hi hd
                        exact hle.rep (f2 _ c hc))
                    rw [hl2] at this
                    exact this
            · cases h
          · cases h
        · cases h
      · cases h
    · cases h

theorem done_conv (c : Ctx E S asm a w ι ro) {o : Oper} {s d : TypeId} {x : Operand} (ho : o.op = .convert s d x) {r : Bool × AV E} (h : evConv s d (getA S.tmps asm x) = some r) (hok : r.1 = true) : OpDone E o a w ι ro S.next (.test r.1 r.2) := by
  have hx := c.get x
  generalize hvx : a.eval x = vx at hx
  generalize getA S.tmps asm x = X at *
  unfold evConv at h
  split at h
  · rename_i k0 n
    have e1 := hx.int_inv
    subst e1
    split at h
    · rename_i k1 k h1 h2
      cases h
      exact .pure c.rolt c.fresh (val := .int k (k.wrap n)) (by simp [execOp, ho, hvx, convert, run_underlying (isIntT_inv h1), run_underlying (isIntT_inv h2), Conv.intToInt]) rfl rfl (.d _ _ (.int _ _))
    · rename_i k1 h1 h2
      split at h
      · rename_i hd
        cases h
        exact .pure c.rolt c.fresh (val := .float .f64 (floatOfInt .f64 n)) (by simp only [execOp, ho, hvx, Sem.run_bind, run_convert_int_float w s d k0 .f64 n (by rw [isIntT_inv h1]; rfl) (isF64T_inv hd), Result.andThen_ok, Sem.run_pure]) rfl rfl (.d _ _ (.flt _ _ (F64.isf_ofInt n)))
      · cases h
    · cases h
  · rename_i n
    obtain ⟨b, e1, hb⟩ := hx.flt_inv
    subst e1
    split at h
    · rename_i h2
      split at h
      · rename_i hs
        cases h
        have hn : n.natAbs < 9007199254740992 := of_decide_eq_true hok
        exact .pure c.rolt c.fresh (val := .int .i64 n) (by simp only [execOp, ho, hvx, Sem.run_bind, run_convert_float_int (P := P) w s d .f64 .i64 b n (by rw [isF64T_inv hs]; rfl) (isIntT_inv h2) (F64.isf_toInt hb hn), Result.andThen_ok, Sem.run_pure]) rfl rfl (.d _ _ (.int _ _))
      · cases h
    · cases h
  · split at h
    · rename_i v hv
      cases h
      unfold evConvB at hv
      split at hv
      · rename_i e hT he
        split at hv
        · rename_i t l hu8 hsl
          split at hv
          · rename_i f hf
            cases hv
            have hu : P.underlying e = some (.int .u8) := by
              unfold isU8 at hu8
              split at hu8
              · assumption
              · cases hu8
            obtain ⟨ad, cap, rfl, hd⟩ := (sliceA_rep hx hsl).slice_inv
            refine .pure c.rolt c.fresh (val := .string ⟨(l.map fun y => UInt8.ofNat (f y).toNat).toArray⟩) ?_ rfl rfl (.d _ _ (.str _))
            have hrun : (convert s d (.slice ad l.length cap)).run P w = .ok (.string ⟨(l.map fun y => UInt8.ofNat (f y).toNat).toArray⟩) w := by
              rcases hd with rfl | ⟨g, off, rfl, hcap, fv, f1, f2⟩
              · rw [run_convert_bytes_string w s d e _ _ cap (elemT_inv he) hu (isStrT_inv hT)]
                cases ad with
                | none => simp [Conv.bytesToString]; rfl
                | some ad => rw [run_bytesToString w ad _ cap [] (by simp [loadCells, loadCellsFrom])]; rfl
              · have hlen : (l.map f).length = l.length := by simp
                rw [run_convert_bytes_arg w s e (elemT_inv he) hu g off l.length cap (l.map f) hlen (fun i hi => ?_) d (isStrT_inv hT)]
                · simp [strOfNums, Function.comp_def]
                · have hc := E.byte_ok t f hf l[i]
                  have h1 : E.size t = 1 := by rw [← E.cells_len t l[i], hc]; rfl
                  have hc0 : (E.cells t l[i])[0]? = some (.int .u8 (f l[i])) := by rw [hc]; rfl
                  have g1 := f1 i l[i] 0 _ (List.getElem?_eq_getElem hi) hc0
                  have g2 := f2 i l[i] 0 _ (List.getElem?_eq_getElem hi) hc0
                  have e1 : fv i 0 = .int .u8 (f l[i]) := by generalize fv i 0 = u at g2; cases g2; rfl
                  rw [h1, Nat.mul_one, Nat.add_zero, e1] at g1
                  rw [g1.2]
                  simp [List.getD, hi]
            simp only [execOp, ho, hvx, Sem.run_bind, hrun, Result.andThen_ok, Sem.run_pure]
          · cases hv
        · cases hv
      · cases hv
    · cases h
end
end Go.Proofs.YtfoflgciceckoaaGreatDoor.Mir
