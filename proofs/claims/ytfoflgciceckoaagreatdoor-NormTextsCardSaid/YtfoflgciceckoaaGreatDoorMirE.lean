/- The Mirror, part E: reckoning operations, literals, indexes and cuts. -/
import Derived.Test.YtfoflgciceckoaaGreatDoorMirD
import Derived.Laws.Concat
import Derived.Lib.Strings
import Derived.Laws.Cover2
import Derived.Laws.FloatArith
import Derived.Laws.ComplexArith
namespace Go.Proofs.YtfoflgciceckoaaGreatDoor.Mir
open Go Go.RowKit

section
variable {P : Program} {E : Env P} {w : World} {ro : Nat → Nat → Prop} {ι : Nat → Option Gh} {S : ASt E} {asm : List (Nat × Bool)} {a : Act}

theorem done_move (c : Ctx E S asm a w ι ro) {o : Oper} {x : Operand} (ho : o.op = .move x ∨ o.op = .assign x) : OpDone E o a w ι ro S.next (.pure (getA S.tmps asm x)) :=
  c.pure (val := a.eval x) (by rcases ho with ho | ho <;> simp [execOp, ho]) (c.get x)

theorem asm_cons {j : Nat} {b : Bool} (hs : AsmOk a asm) (h : a.tmps[j]? = some (.bool b)) : AsmOk a ((j, b) :: asm) := by
  intro i b' hb
  unfold hasAsm at hb
  simp only [Bool.or_eq_true, Bool.and_eq_true] at hb
  rcases hb with ⟨h1, h2⟩ | hb
  · have e1 := Nat.eq_of_beq_eq_true h1
    have e2 : b = b' := by simpa using h2
    subst e1; subst e2
    exact h
  · exact hs i b' hb

theorem done_pick (c : Ctx E S asm a w ι ro) {o : Oper} {x y z : Operand} (ho : o.op = .pick x y z) {r : AV E} (h : evPick S.tmps asm x y z = some r) : OpDone E o a w ι ro S.next (.pure r) := by
  unfold evPick at h
  cases x with
  | tmp j =>
    have hx := c.get (.tmp j)
    cases hg : getA S.tmps asm (.tmp j) with
    | d cv =>
      cases cv with
      | bool b =>
        rw [hg] at h hx
        have hb := hx.bool_inv
        have hj : a.tmps[j]? = some (.bool b) := by
          have hb' : a.tmps.getD j undef = .bool b := hb
          by_cases hlt : j < a.tmps.size
          · simp [hlt] at hb' ⊢; exact hb'
          · simp [hlt] at hb'
            cases hb'
        simp only at h
        cases b with
        | true =>
          have hy := getA_rep (E := E) c.tm (asm_cons c.asm hj) y
          cases hgy : getA S.tmps ((j, true) :: asm) y with
          | d cy =>
            cases cy with
            | bool by_ =>
              rw [hgy] at h hy
              cases hgz : getA S.tmps ((j, false) :: asm) z with
              | d cz =>
                cases cz with
                | bool bz =>
                  rw [hgz] at h
                  cases h
                  exact c.pure (val := .bool by_) (by simp [execOp, ho, hb, asBool, hy.bool_inv]) (.d _ _ (.bool _))
                | _ => rw [hgz] at h; cases h
              | _ => rw [hgz] at h; cases h
            | _ => rw [hgy] at h; cases h
          | _ => rw [hgy] at h; cases h
        | false =>
          have hz := getA_rep (E := E) c.tm (asm_cons c.asm hj) z
          cases hgy : getA S.tmps ((j, true) :: asm) y with
          | d cy =>
            cases cy with
            | bool by_ =>
              rw [hgy] at h
              cases hgz : getA S.tmps ((j, false) :: asm) z with
              | d cz =>
                cases cz with
                | bool bz =>
                  rw [hgz] at h hz
                  cases h
                  exact c.pure (val := .bool bz) (by simp [execOp, ho, hb, asBool, hz.bool_inv]) (.d _ _ (.bool _))
                | _ => rw [hgz] at h; cases h
              | _ => rw [hgz] at h; cases h
            | _ => rw [hgy] at h; cases h
          | _ => rw [hgy] at h; cases h
      | _ => rw [hg] at h; cases h
    | _ => rw [hg] at h; cases h
  | _ => cases h

theorem run_evInt (op : BinOp) (T : TypeId) (k : IntKind) (m n : Int) {ok : Bool} {r : AV E} (h : evInt op k m n = some (ok, r)) (hok : ok = true) :
    ∃ val, (binOp op T (.int k m) (.int k n)).run P w = .ok val w ∧ Rep E w ro ι val r := by
  cases op <;> simp only [evInt] at h <;> first | (cases h; done) | skip
  all_goals
    simp only [Option.some.injEq, Prod.mk.injEq] at h
    obtain ⟨rfl, rfl⟩ := h
  all_goals first
    | (refine ⟨_, ?_, .d _ _ (.int _ _)⟩; simp [binOp, Op.intArith, Op.intBits, bits]; done)
    | (refine ⟨_, ?_, .d _ _ (.bool _)⟩; simp [binOp, Op.intCmp]; done)
    | skip
  all_goals
    have h0 : ¬ n = 0 := by simpa using hok
    refine ⟨_, ?_, .d _ _ (.int _ _)⟩
    simp [binOp, Op.intDiv, h0]

theorem run_evStr (op : BinOp) (T : TypeId) (m n : List UInt8) {ok : Bool} {r : AV E} (h : evStr op m n = some (ok, r)) (hok : ok = true) :
    ∃ val, (binOp op T (.string ⟨m.toArray⟩) (.string ⟨n.toArray⟩)).run P w = .ok val w ∧ Rep E w ro ι val r := by
  cases op <;> simp only [evStr] at h <;> first | (cases h; done) | skip
  all_goals
    simp only [Option.some.injEq, Prod.mk.injEq] at h
    obtain ⟨rfl, rfl⟩ := h
  all_goals first
    | exact ⟨_, by simp [go_sem], .d _ _ (.bool _)⟩
    | skip
  have h0 : m.length + n.length ≤ maxStr := by simpa using hok
  unfold maxStr at h0
  refine ⟨_, ?_, .d _ _ (.str _)⟩
  have := run_string_add_sum (P := P) (w := w) ⟨m.toArray⟩ ⟨n.toArray⟩ (by show m.toArray.size + n.toArray.size ≤ _; simp; omega)
  rw [ByteArray.mk_append_mk] at this
  simp only [binOp]
  exact this

theorem run_equalIn_bool (q : Nat) {T : TypeId} (hu : P.underlying T = some .bool) (m n : Bool) : (Op.equalIn (q + 1) T (.bool m) (.bool n)).run P w = .ok (m == n) w := by
  simp [Op.equalIn, run_underlying hu]

theorem run_boolEq (T : TypeId) (hT : isBoolT P T = true) (m n : Bool) : (binOp .eql T (.bool m) (.bool n)).run P w = .ok (.bool (m == n)) w ∧ (binOp .neq T (.bool m) (.bool n)).run P w = .ok (.bool !(m == n)) w := by
  unfold isBoolT at hT
  cases hu : P.underlying T with
  | none => rw [hu] at hT; cases hT
  | some d =>
    rw [hu] at hT
    cases d <;> first | (cases hT; done) | skip
    have h := run_equalIn_bool (P := P) (w := w) 9999 hu m n
    have e : Op.equal T (.bool m) (.bool n) = Op.equalIn (9999 + 1) T (.bool m) (.bool n) := rfl
    constructor
    · show (do pure (Value.bool (← Op.equal T (.bool m) (.bool n))) : Sem Value).run P w = _
      rw [e]
      simp only [Sem.run_bind, h, Result.andThen_ok, Sem.run_pure]
    · show (do pure (Value.bool (!(← Op.equal T (.bool m) (.bool n)))) : Sem Value).run P w = _
      rw [e]
      simp only [Sem.run_bind, h, Result.andThen_ok, Sem.run_pure]

theorem cmp_eq (m n : Int) : (some (compare m n) == some Ordering.eq) = (m == n) := by
  rw [Int.compare_eq_ite_lt]
  by_cases h : m < n
  · rw [if_pos h]; symm; simp only [beq_eq_false_iff_ne, show (some Ordering.lt == some Ordering.eq) = false from rfl]; omega
  · rw [if_neg h]
    by_cases h2 : n < m
    · rw [if_pos h2]; symm; simp only [beq_eq_false_iff_ne, show (some Ordering.gt == some Ordering.eq) = false from rfl]; omega
    · rw [if_neg h2]; symm; simp only [beq_iff_eq, show (some Ordering.eq == some Ordering.eq) = true from rfl]; omega
theorem cmp_lt (m n : Int) : (some (compare m n) == some Ordering.lt) = decide (m < n) := by
  rw [Int.compare_eq_ite_lt]
  by_cases h : m < n
  · rw [if_pos h]; simp [h]
  · rw [if_neg h]
    by_cases h2 : n < m
    · rw [if_pos h2]; simp [h]
    · rw [if_neg h2]; simp [h]
theorem cmp_gt (m n : Int) : (some (compare m n) == some Ordering.gt) = decide (n < m) := by
  rw [Int.compare_eq_ite_lt]
  by_cases h : m < n
  · rw [if_pos h]; symm; simp only [decide_eq_false_iff_not, show (some Ordering.lt == some Ordering.gt) = false from rfl]; omega
  · rw [if_neg h]
    by_cases h2 : n < m
    · rw [if_pos h2]; simp [h2]
    · rw [if_neg h2]; simp [h2]

theorem cmp_le (m n : Int) : (some (compare m n) == some Ordering.lt || some (compare m n) == some Ordering.eq) = decide (m ≤ n) := by
  rw [cmp_lt, cmp_eq]
  by_cases h : m < n
  · simp [h, Int.le_of_lt h]
  · by_cases e : m = n
    · subst e; simp
    · have h2 : ¬ m ≤ n := by omega
      simp [h, e, h2]
theorem cmp_ge (m n : Int) : (some (compare m n) == some Ordering.gt || some (compare m n) == some Ordering.eq) = decide (n ≤ m) := by
  rw [cmp_gt, cmp_eq]
  by_cases h : n < m
  · simp [h, Int.le_of_lt h]
  · by_cases e : m = n
    · subst e; simp
    · have h2 : ¬ n ≤ m := by omega
      simp [h, e, h2]

theorem run_evFlt (op : BinOp) (T : TypeId) (x y : Nat) (m n : Int) (hx : F64.IsF x m) (hy : F64.IsF y n) {ok : Bool} {r : AV E} (h : evFlt op m n = some (ok, r)) (hok : ok = true) :
    ∃ val, (binOp op T (.float .f64 x) (.float .f64 y)).run P w = .ok val w ∧ Rep E w ro ι val r := by
  have ord : (fltOk m && fltOk n) = true → FloatKind.f64.format.order x y = some (compare m n) := fun h => by
    simp only [Bool.and_eq_true, fltOk, decide_eq_true_eq] at h
    exact F64.isf_order hx hy h.1 h.2
  cases op <;> simp only [evFlt] at h <;> first | (cases h; done) | skip
  all_goals
    simp only [Option.some.injEq, Prod.mk.injEq] at h
    obtain ⟨rfl, rfl⟩ := h
  · simp only [Bool.and_eq_true, sumOk, decide_eq_true_eq] at hok
    obtain ⟨r, hr, hf⟩ := F64.isf_add hx hy hok.1 hok.2
    exact ⟨.float .f64 r, by simp [binOp, run_floatArith w hr], .d _ _ (.flt _ _ hf)⟩
  all_goals
    have ho := ord hok
    refine ⟨_, ?_, .d _ _ (.bool _)⟩
    simp only [binOp, Op.floatCmp, ho, ne_eq, not_true, if_false, Sem.run_pure]
    first
      | rw [cmp_le]
      | rw [cmp_ge]
      | rw [cmp_lt]
      | rw [cmp_gt]
      | rw [cmp_eq]
      | rw [bne, cmp_eq]; rfl

theorem done_bin (c : Ctx E S asm a w ι ro) {o : Oper} {op : BinOp} {T T' : TypeId} {x y : Operand} (ho : o.op = .binOp op T x y T') {r : Bool × AV E} (h : evBin op T (getA S.tmps asm x) (getA S.tmps asm y) = some r) (hok : r.1 = true) :
    OpDone E o a w ι ro S.next (.test r.1 r.2) := by
  obtain ⟨ok, r⟩ := r
  have hx := c.get x
  have hy := c.get y
  generalize hvx : a.eval x = vx at hx
  generalize hvy : a.eval y = vy at hy
  generalize getA S.tmps asm x = X at *
  generalize getA S.tmps asm y = Y at *
  unfold evBin at h
  split at h
  · rename_i k m k' n
    have e1 := hx.int_inv
    have e2 := hy.int_inv
    subst e1; subst e2
    split at h
    · rename_i q hq
      cases h
      unfold evSh at hq
      cases op <;> first | (cases hq; done) | skip
      all_goals
        cases hq
        simp only [Bool.and_eq_true, decide_eq_true_eq] at hok
        first
          | exact .pure c.rolt c.fresh (val := .int k (k.wrap (m * 2 ^ n.toNat))) (by simp [execOp, ho, hvx, hvy, eqGuard, binOp_shl, shift_shl k k' m n hok.1 hok.2]) rfl rfl (.d _ _ (.int k _))
          | exact .pure c.rolt c.fresh (val := .int k (m / 2 ^ n.toNat)) (by simp [execOp, ho, hvx, hvy, eqGuard, binOp_shr, shift_shr k k' m n hok.1 hok.2]) rfl rfl (.d _ _ (.int k _))
    split at h
    · rename_i hk
      have hkk : k = k' := by simpa [sameKind] using hk
      subst hkk
      obtain ⟨val, hrun, hr⟩ := run_evInt (P := P) (E := E) (w := w) (ro := ro) (ι := ι) op T k m n h hok
      exact .pure c.rolt c.fresh (val := val) (by cases op <;> simp [execOp, ho, hvx, hvy, eqGuard, hrun]) rfl rfl hr
    · cases h
  · rename_i m n
    have e1 := hx.str_inv
    have e2 := hy.str_inv
    subst e1; subst e2
    obtain ⟨val, hrun, hr⟩ := run_evStr (P := P) (E := E) (w := w) (ro := ro) (ι := ι) op T m n h hok
    exact .pure c.rolt c.fresh (val := val) (by cases op <;> simp [execOp, ho, hvx, hvy, eqGuard, hrun]) rfl rfl hr
  · rename_i m n
    obtain ⟨x', e1, hx'⟩ := hx.flt_inv
    obtain ⟨y', e2, hy'⟩ := hy.flt_inv
    subst e1; subst e2
    obtain ⟨val, hrun, hr⟩ := run_evFlt (P := P) (E := E) (w := w) (ro := ro) (ι := ι) op T x' y' m n hx' hy' h hok
    exact .pure c.rolt c.fresh (val := val) (by cases op <;> simp [execOp, ho, hvx, hvy, eqGuard, hrun]) rfl rfl hr
  · rename_i m1 m2 n1 n2
    obtain ⟨x1, x2, e1, hx1, hx2⟩ := hx.cpx_inv
    obtain ⟨y1, y2, e2, hy1, hy2⟩ := hy.cpx_inv
    subst e1; subst e2
    have heq : ∀ (hk : (fltOk m1 && fltOk n1 && (fltOk m2 && fltOk n2)) = true), (F64.IsF x1 m1 → F64.IsF y1 n1 → (FloatKind.f64.format.order x1 y1 == some .eq) = (m1 == n1)) ∧ (F64.IsF x2 m2 → F64.IsF y2 n2 → (FloatKind.f64.format.order x2 y2 == some .eq) = (m2 == n2)) := by
      intro hk
      simp only [Bool.and_eq_true, fltOk, decide_eq_true_eq] at hk
      obtain ⟨⟨k1, k2⟩, k3, k4⟩ := hk
      exact ⟨fun p q => by rw [F64.isf_order p q k1 k2]; exact cmp_eq _ _, fun p q => by rw [F64.isf_order p q k3 k4]; exact cmp_eq _ _⟩
    cases op <;> first | (cases h; done) | skip
    rotate_left
    · cases h
      obtain ⟨q1, q2⟩ := heq hok
      refine .pure c.rolt c.fresh (val := .bool (m1 == n1 && m2 == n2)) ?_ rfl rfl (.d _ _ (.bool _))
      simp [execOp, ho, hvx, hvy, eqGuard, binOp, Op.complexOp, Op.Complex.cmp, asBool, Op.floatCmp, q1 hx1 hy1, q2 hx2 hy2]
    · cases h
      obtain ⟨q1, q2⟩ := heq hok
      refine .pure c.rolt c.fresh (val := .bool !(m1 == n1 && m2 == n2)) ?_ rfl rfl (.d _ _ (.bool _))
      simp [execOp, ho, hvx, hvy, eqGuard, binOp, Op.complexOp, Op.Complex.cmp, asBool, Op.floatCmp, q1 hx1 hy1, q2 hx2 hy2]
    cases h
    simp only [Bool.and_eq_true, sumOk, decide_eq_true_eq] at hok
    obtain ⟨⟨k1, k2⟩, k3, k4⟩ := hok
    obtain ⟨r1, hr1, hf1⟩ := F64.isf_add hx1 hy1 k1 k2
    obtain ⟨r2, hr2, hf2⟩ := F64.isf_add hx2 hy2 k3 k4
    have hs : cSumBits .add .f64 x1 x2 y1 y2 = some (r1, r2) := by simp [cSumBits, hr1, hr2]
    have hrun := run_complex_sum (P := P) (w := w) .add (.inl rfl) T .f64 x1 x2 y1 y2 r1 r2 hs
    exact .pure c.rolt c.fresh (val := .complex .f64 r1 r2) (by simp [execOp, ho, hvx, hvy, eqGuard, hrun]) rfl rfl (.d _ _ (.cpx _ _ _ _ hf1 hf2))
  · rename_i m n
    have e1 := hx.bool_inv
    have e2 := hy.bool_inv
    subst e1; subst e2
    split at h
    · rename_i hT
      obtain ⟨h1, h2⟩ := run_boolEq (P := P) (w := w) T hT m n
      cases op <;> first | (cases h; done) | skip
      · cases h
        exact .pure c.rolt c.fresh (val := .bool (m == n)) (by simp [execOp, ho, hvx, hvy, eqGuard, h1]) rfl rfl (.d _ _ (.bool _))
      · cases h
        exact .pure c.rolt c.fresh (val := .bool !(m == n)) (by simp only [execOp, ho, hvx, hvy, eqGuard]; simp [h2]) rfl rfl (.d _ _ (.bool _))
    · cases h
  · cases h

theorem done_un (c : Ctx E S asm a w ι ro) {o : Oper} {op : UnOp} {T : TypeId} {x : Operand} (ho : o.op = .unOp op T x) {r : Bool × AV E} (h : evUn op (getA S.tmps asm x) = some r) (hok : r.1 = true) : OpDone E o a w ι ro S.next (.test r.1 r.2) := by
  have hx := c.get x
  generalize hvx : a.eval x = vx at hx
  generalize getA S.tmps asm x = X at *
  unfold evUn at h
  split at h
  · rename_i k n
    have e1 := hx.int_inv
    subst e1
    cases h
    exact .pure c.rolt c.fresh (val := .int k (k.wrap (0 - n))) (by simp [execOp, ho, hvx, Op.unary, Op.intArith]) rfl rfl (.d _ _ (.int _ _))
  · rename_i n
    obtain ⟨b, e1, hb⟩ := hx.flt_inv
    subst e1
    cases h
    have hn : n.natAbs < 9007199254740992 := of_decide_eq_true hok
    exact .pure c.rolt c.fresh (val := .float .f64 (Op.negFloat .f64 b)) (by simp [execOp, ho, hvx, Op.unary]) rfl rfl (.d _ _ (.flt _ _ (F64.isf_neg hb hn)))
  · rename_i b
    have e1 := hx.bool_inv
    subst e1
    cases h
    exact .pure c.rolt c.fresh (val := .bool !b) (by simp [execOp, ho, hvx, Op.unary]) rfl rfl (.d _ _ (.bool _))
  · cases h

theorem isF64T_inv {T : TypeId} (h : isF64T P T = true) : P.underlying T = some (.float .f64) := by
  unfold isF64T at h
  split at h
  · assumption
  · cases h

theorem isIntT_inv {T : TypeId} {k : IntKind} (h : isIntT P T = some k) : P.underlying T = some (.int k) := by
  unfold isIntT at h
  cases hu : P.underlying T with
  | none => rw [hu] at h; cases h
  | some d => rw [hu] at h; cases d <;> first | (cases h; done) | (cases h; rfl)
end
end Go.Proofs.YtfoflgciceckoaaGreatDoor.Mir
