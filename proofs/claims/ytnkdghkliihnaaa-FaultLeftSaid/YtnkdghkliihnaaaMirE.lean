/- The Mirror, part E: reckoning operations, literals, indexes and cuts. -/
import Derived.Test.YtnkdghkliihnaaaMirD
import Derived.Laws.Concat
import Derived.Lib.Strings
namespace Go.Proofs.Ytnkdghkliihnaaa.Mir
open Go Go.RowKit

section
variable {P : Program} {E : Env P} {w : World} {ro : Nat → Nat → Prop} {ι : Nat → Option Gh} {S : ASt E} {asm : List (Nat × Bool)} {a : Act}

theorem done_move (c : Ctx E S asm a w ι ro) {o : Oper} {x : Operand} (ho : o.op = .move x ∨ o.op = .assign x) : OpDone E o a w ι ro S.next (.pure (getA S.tmps asm x)) :=
  c.pure (val := a.eval x) (by rcases ho with ho | ho <;> simp [execOp, ho]) (c.get x)

theorem asm_cons {j : Nat} {b : Bool} (hs : AsmOk a asm) (h : a.tmps[j]? = some (.bool b)) : AsmOk a ((j, b) :: asm) := by
  intro i b' hb
  unfold hasAsm at hb
  simp only [Bool.or_eq_true, Bool.and_eq_true] at hb
  rcases hb with ⟨h1, h2⟩ | hb
  · have e1 := Nat.eq_of_beq_eq_true h1
    have e2 : b = b' := by simpa using h2
    subst e1; subst e2
    exact h
  · exact hs i b' hb

theorem done_pick (c : Ctx E S asm a w ι ro) {o : Oper} {x y z : Operand} (ho : o.op = .pick x y z) {r : AV E} (h : evPick S.tmps asm x y z = some r) : OpDone E o a w ι ro S.next (.pure r) := by
  unfold evPick at h
  cases x with
  | tmp j =>
    have hx := c.get (.tmp j)
    cases hg : getA S.tmps asm (.tmp j) with
    | d cv =>
      cases cv with
      | bool b =>
        rw [hg] at h hx
        have hb := hx.bool_inv
        have hj : a.tmps[j]? = some (.bool b) := by
          have hb' : a.tmps.getD j undef = .bool b := hb
          by_cases hlt : j < a.tmps.size
          · simp [hlt] at hb' ⊢; exact hb'
          · simp [hlt] at hb'
            cases hb'
        simp only at h
        cases b with
        | true =>
          have hy := getA_rep (E := E) c.tm (asm_cons c.asm hj) y
          cases hgy : getA S.tmps ((j, true) :: asm) y with
          | d cy =>
            cases cy with
            | bool by_ =>
              rw [hgy] at h hy
              cases hgz : getA S.tmps ((j, false) :: asm) z with
              | d cz =>
                cases cz with
                | bool bz =>
                  rw [hgz] at h
                  cases h
                  exact c.pure (val := .bool by_) (by simp [execOp, ho, hb, asBool, hy.bool_inv]) (.d _ _ (.bool _))
                | _ => rw [hgz] at h; cases h
              | _ => rw [hgz] at h; cases h
            | _ => rw [hgy] at h; cases h
          | _ => rw [hgy] at h; cases h
        | false =>
          have hz := getA_rep (E := E) c.tm (asm_cons c.asm hj) z
          cases hgy : getA S.tmps ((j, true) :: asm) y with
          | d cy =>
            cases cy with
            | bool by_ =>
              rw [hgy] at h
              cases hgz : getA S.tmps ((j, false) :: asm) z with
              | d cz =>
                cases cz with
                | bool bz =>
                  rw [hgz] at h hz
                  cases h
                  exact c.pure (val := .bool bz) (by simp [execOp, ho, hb, asBool, hz.bool_inv]) (.d _ _ (.bool _))
                | _ => rw [hgz] at h; cases h
              | _ => rw [hgz] at h; cases h
            | _ => rw [hgy] at h; cases h
          | _ => rw [hgy] at h; cases h
      | _ => rw [hg] at h; cases h
    | _ => rw [hg] at h; cases h
  | _ => cases h

theorem run_evInt (op : BinOp) (T : TypeId) (k : IntKind) (m n : Int) {ok : Bool} {r : AV E} (h : evInt op k m n = some (ok, r)) (hok : ok = true) :
    ∃ val, (binOp op T (.int k m) (.int k n)).run P w = .ok val w ∧ Rep E w ro ι val r := by
  cases op <;> simp only [evInt] at h <;> first | (cases h; done) | skip
  all_goals
    simp only [Option.some.injEq, Prod.mk.injEq] at h
    obtain ⟨rfl, rfl⟩ := h
  all_goals first
    | (refine ⟨_, ?_, .d _ _ (.int _ _)⟩; simp [binOp, Op.intArith, Op.intBits, bits]; done)
    | (refine ⟨_, ?_, .d _ _ (.bool _)⟩; simp [binOp, Op.intCmp]; done)
    | skip
  all_goals
    have h0 : ¬ n = 0 := by simpa using hok
    refine ⟨_, ?_, .d _ _ (.int _ _)⟩
    simp [binOp, Op.intDiv, h0]

theorem run_evStr (op : BinOp) (T : TypeId) (m n : List UInt8) {ok : Bool} {r : AV E} (h : evStr op m n = some (ok, r)) (hok : ok = true) :
    ∃ val, (binOp op T (.string ⟨m.toArray⟩) (.string ⟨n.toArray⟩)).run P w = .ok val w ∧ Rep E w ro ι val r := by
  cases op <;> simp only [evStr] at h <;> first | (cases h; done) | skip
  all_goals
    simp only [Option.some.injEq, Prod.mk.injEq] at h
    obtain ⟨rfl, rfl⟩ := h
  all_goals first
    | exact ⟨_, by simp [go_sem], .d _ _ (.bool _)⟩
    | skip
  have h0 : m.length + n.length ≤ maxStr := by simpa using hok
  unfold maxStr at h0
  refine ⟨_, ?_, .d _ _ (.str _)⟩
  have := run_string_add_sum (P := P) (w := w) ⟨m.toArray⟩ ⟨n.toArray⟩ (by show m.toArray.size + n.toArray.size ≤ _; simp; omega)
  rw [ByteArray.mk_append_mk] at this
  simp only [binOp]
  exact this

theorem run_equalIn_bool (q : Nat) {T : TypeId} (hu : P.underlying T = some .bool) (m n : Bool) : (Op.equalIn (q + 1) T (.bool m) (.bool n)).run P w = .ok (m == n) w := by
  simp [Op.equalIn, run_underlying hu]

theorem run_boolEq (T : TypeId) (hT : isBoolT P T = true) (m n : Bool) : (binOp .eql T (.bool m) (.bool n)).run P w = .ok (.bool (m == n)) w ∧ (binOp .neq T (.bool m) (.bool n)).run P w = .ok (.bool !(m == n)) w := by
  unfold isBoolT at hT
  cases hu : P.underlying T with
  | none => rw [hu] at hT; cases hT
  | some d =>
    rw [hu] at hT
    cases d <;> first | (cases hT; done) | skip
    have h := run_equalIn_bool (P := P) (w := w) 9999 hu m n
    have e : Op.equal T (.bool m) (.bool n) = Op.equalIn (9999 + 1) T (.bool m) (.bool n) := rfl
    constructor
    · show (do pure (Value.bool (← Op.equal T (.bool m) (.bool n))) : Sem Value).run P w = _
      rw [e]
      simp only [Sem.run_bind, h, Result.andThen_ok, Sem.run_pure]
    · show (do pure (Value.bool (!(← Op.equal T (.bool m) (.bool n)))) : Sem Value).run P w = _
      rw [e]
      simp only [Sem.run_bind, h, Result.andThen_ok, Sem.run_pure]

theorem done_bin (c : Ctx E S asm a w ι ro) {o : Oper} {op : BinOp} {T T' : TypeId} {x y : Operand} (ho : o.op = .binOp op T x y T') {r : Bool × AV E} (h : evBin op T (getA S.tmps asm x) (getA S.tmps asm y) = some r) (hok : r.1 = true) :
    OpDone E o a w ι ro S.next (.test r.1 r.2) := by
  obtain ⟨ok, r⟩ := r
  have hx := c.get x
  have hy := c.get y
  generalize hvx : a.eval x = vx at hx
  generalize hvy : a.eval y = vy at hy
  generalize getA S.tmps asm x = X at *
  generalize getA S.tmps asm y = Y at *
  unfold evBin at h
  split at h
  · rename_i k m k' n
    have e1 := hx.int_inv
    have e2 := hy.int_inv
    subst e1; subst e2
    split at h
    · rename_i hk
      have hkk : k = k' := by simpa [sameKind] using hk
      subst hkk
      obtain ⟨val, hrun, hr⟩ := run_evInt (P := P) (E := E) (w := w) (ro := ro) (ι := ι) op T k m n h hok
      exact .pure c.rolt c.fresh (val := val) (by cases op <;> simp [execOp, ho, hvx, hvy, eqGuard, hrun]) rfl rfl hr
    · cases h
  · rename_i m n
    have e1 := hx.str_inv
    have e2 := hy.str_inv
    subst e1; subst e2
    obtain ⟨val, hrun, hr⟩ := run_evStr (P := P) (E := E) (w := w) (ro := ro) (ι := ι) op T m n h hok
    exact .pure c.rolt c.fresh (val := val) (by cases op <;> simp [execOp, ho, hvx, hvy, eqGuard, hrun]) rfl rfl hr
  · rename_i m n
    have e1 := hx.bool_inv
    have e2 := hy.bool_inv
    subst e1; subst e2
    split at h
    · rename_i hT
      obtain ⟨h1, h2⟩ := run_boolEq (P := P) (w := w) T hT m n
      cases op <;> first | (cases h; done) | skip
      · cases h
        exact .pure c.rolt c.fresh (val := .bool (m == n)) (by simp [execOp, ho, hvx, hvy, eqGuard, h1]) rfl rfl (.d _ _ (.bool _))
      · cases h
        exact .pure c.rolt c.fresh (val := .bool !(m == n)) (by simp only [execOp, ho, hvx, hvy, eqGuard]; simp [h2]) rfl rfl (.d _ _ (.bool _))
    · cases h
  · cases h

theorem done_un (c : Ctx E S asm a w ι ro) {o : Oper} {op : UnOp} {T : TypeId} {x : Operand} (ho : o.op = .unOp op T x) {r : AV E} (h : evUn op (getA S.tmps asm x) = some r) : OpDone E o a w ι ro S.next (.pure r) := by
  have hx := c.get x
  generalize hvx : a.eval x = vx at hx
  generalize getA S.tmps asm x = X at *
  unfold evUn at h
  split at h
  · rename_i k n
    have e1 := hx.int_inv
    subst e1
    cases h
    exact c.pure (val := .int k (k.wrap (0 - n))) (by simp [execOp, ho, hvx, Op.unary, Op.intArith]) (.d _ _ (.int _ _))
  · rename_i b
    have e1 := hx.bool_inv
    subst e1
    cases h
    exact c.pure (val := .bool !b) (by simp [execOp, ho, hvx, Op.unary]) (.d _ _ (.bool _))
  · cases h

theorem isIntT_inv {T : TypeId} {k : IntKind} (h : isIntT P T = some k) : P.underlying T = some (.int k) := by
  unfold isIntT at h
  cases hu : P.underlying T with
  | none => rw [hu] at h; cases h
  | some d => rw [hu] at h; cases d <;> first | (cases h; done) | (cases h; rfl)

theorem done_conv (c : Ctx E S asm a w ι ro) {o : Oper} {s d : TypeId} {x : Operand} (ho : o.op = .convert s d x) {r : AV E} (h : evConv s d (getA S.tmps asm x) = some r) : OpDone E o a w ι ro S.next (.pure r) := by
  have hx := c.get x
  generalize hvx : a.eval x = vx at hx
  generalize getA S.tmps asm x = X at *
  unfold evConv at h
  split at h
  · rename_i k1 k q n h1 h2
    have e1 := hx.int_inv
    subst e1
    cases h
    exact c.pure (val := .int k (k.wrap n)) (by simp [execOp, ho, hvx, convert, run_underlying (isIntT_inv h1), run_underlying (isIntT_inv h2), Conv.intToInt]) (.d _ _ (.int _ _))
  · cases h
end
end Go.Proofs.Ytnkdghkliihnaaa.Mir
