/- The Mirror, part R: slices.Clone makes a row for its caller, at any element type. -/
import Derived.Test.YtfoflgciceckoaaGreatDoorMirQ
import Derived.Lib.SliceRun
namespace Go.Proofs.YtfoflgciceckoaaGreatDoor.Mir
open Go Go.RowKit

/-- The text of slices.Clone, as the model has it: T: the slice's type; b: bool. -/
def cloneCode (T b : TypeId) : Code :=
  ((Go.Code.region 0 #[{ dst := some 2, op := Go.Op.assign (Go.Operand.const (Go.Value.slice none 0 0)), type := T, pos := "slices.go:355", after := #[], guard := none }] false).seq
    (((Go.Code.region 1
      #[{ dst := some 3, op := Go.Op.move (Go.Operand.tmp 0), type := T, pos := "slices.go:357", after := #[], guard := none },
        { dst := some 4, op := Go.Op.binOp Go.BinOp.eql T (Go.Operand.tmp 3) (Go.Operand.const (Go.Value.slice none 0 0)) T, type := b, pos := "slices.go:357", after := #[{ on := 0, ground := Go.Ground.data }], guard := none }] false).seq
      (Go.Code.cond (Go.Operand.tmp 4)
        ((Go.Code.region 2 #[{ dst := some 2, op := Go.Op.assign (Go.Operand.const (Go.Value.slice none 0 0)), type := T, pos := "slices.go:358", after := #[], guard := none }] false).seq Go.Code.ret)
        Go.Code.skip)).seq
      ((Go.Code.region 3
        #[{ dst := some 5, op := Go.Op.buildSlice T 0 #[], type := T, pos := "slices.go:362", after := #[], guard := none },
          { dst := some 6, op := Go.Op.move (Go.Operand.tmp 0), type := T, pos := "slices.go:362", after := #[], guard := none },
          { dst := some 7, op := Go.Op.call { callee := Go.Callee.builtin Go.Builtin.append, args := #[Go.Operand.tmp 5, Go.Operand.tmp 6], argTypes := #[T, T] }, type := T, pos := "slices.go:362", after := #[{ on := 0, ground := Go.Ground.data }, { on := 1, ground := Go.Ground.data }], guard := none },
          { dst := some 2, op := Go.Op.assign (Go.Operand.tmp 7), type := T, pos := "slices.go:362",
            after := #[{ on := 2, ground := Go.Ground.data }, { on := 2, ground := Go.Ground.chain }, { on := 0, ground := Go.Ground.phase }, { on := 1, ground := Go.Ground.phase }, { on := 2, ground := Go.Ground.phase }], guard := none }] false).seq Go.Code.ret)))

section
variable {P : Program} {E : Env P}

/-- Clone of a slice: the same list, in a row of its own. -/
def cloneF (e : TypeId) : FnR E
  | [v] => bif E.agg v.1 then none else (match E.cells v.1 v.2 with
    | [.slice t l] => bif Nat.beq (E.tid t) e then some (decide (l.length * E.bytes t ≤ maxBytes), ⟨t, l⟩) else none
    | _ => none)
  | _ => none

theorem cell_lt {w : World} {a : Addr} {u : Value} (h : w.cell? a = some u) : a.block < w.heap.size := by
  rcases Nat.lt_or_ge a.block w.heap.size with hl | hl
  · exact hl
  · unfold World.cell? at h
    rw [Array.getElem?_eq_none hl] at h
    cases h

theorem wpList_val {ops : Array Oper} {rest : List Oper} {o : Oper} {a : Act} {w w' : World} {v : Value} {Q : Exit → Act → World → Prop} (hg : o.guard = none) (hr : (execOp a.eval o).run P w = .ok (.value v) w') (h : wpList P ops Q rest (a.put o.dst v) w') : wpList P ops Q (o :: rest) a w := by
  refine wpList_plain hg fun K hK => ?_
  unfold Oper.wp
  rw [hr]
  exact hK _ _ h

theorem clone_fresh {T b e : TypeId} {f : FuncId} {fn : Func} (hT : P.underlying T = some (.slice e)) (hf : P.funcs[f]? = some fn) (hn : (fn.name == "runtime.NumGoroutine") = false) (hb : fn.body = some (cloneCode T b)) (hres : fn.results = #[.tmp 2]) (hnt : fn.ntmps = 8) :
    FreshOk E f (cloneF e) := by
  refine ⟨⟨fn, hf, hn, by rw [hb]; rfl⟩, fun args t l hF => ?_⟩
  unfold cloneF at hF
  split at hF
  · rename_i v
    obtain ⟨s, x⟩ := v
    cases hag : E.agg s with
    | true => simp only [hag, cond_true] at hF; cases hF
    | false =>
      simp only [hag, cond_false] at hF
      split at hF
      · rename_i t' l' hcells
        cases hbe : Nat.beq (E.tid t') e with
        | false => rw [hbe] at hF; cases hF
        | true =>
          rw [hbe] at hF
          have hbe := Nat.eq_of_beq_eq_true hbe
          subst hbe
          simp only [cond_true] at hF
          injection hF with hF
          injection hF with hok hF
          cases hF
          have hok : l.length * E.bytes t ≤ maxBytes := of_decide_eq_true hok
          intro w ro vals hargs hrolt
          match vals, hargs with
          | [v], hargs =>
          have hd : DRep E w ro v (.slice t l) := by
            rcases hargs.1 with ⟨ha, _⟩ | ⟨_, c, hc, hd⟩
            · rw [hag] at ha; cases ha
            · rw [hcells] at hc; cases hc; exact hd
          obtain ⟨ad, cap, news, rfl, hnl, had, hnc, hn1, hnd⟩ := hd.row
          have huE := fun (n c : Nat) => Lib.run_eql_slice_nil (P := P) w T (E.tid t) ad l.length cap n c hT
          have fin : ∀ (a : Act) (w' : World) (gh : Gh) (xs : List Value), a.tmps[2]? = some gh.v → a.defers = [] → Below w.heap.size w w' → gh.n = l.length → gh.e = E.tid t → gh.sz = E.size t → OwnT w' gh xs → RowD E w' ro t xs l → (∀ g, gh.blk = some g → w.heap.size ≤ g) →
              bodyPost P fn (fun e w' => ∃ (gh : Gh) (xs : List Value), e = .returned gh.v ∧ Below w.heap.size w w' ∧ gh.n = l.length ∧ gh.e = E.tid t ∧ gh.sz = E.size t ∧ OwnT w' gh xs ∧ RowD E w' ro t xs l ∧ ∀ g, gh.blk = some g → w.heap.size ≤ g) .ret a w' := by
            intro a w' gh xs h1 h2 h3 h4 h5 h6 h7 h8 h9
            refine ⟨h2, gh.v, ?_, gh, xs, rfl, h3, h4, h5, h6, h7, h8, h9⟩
            simp [results, hres, h1]
          refine calls_of_wp hf hb ?_
          rw [hnt]
          unfold cloneCode
          refine wp_seq (wp_region_list (wpList_val rfl (v := .slice none 0 0) (w' := w) (by simp [execOp, Act.eval]) (wpList_nil ?_)))
          refine wp_seq (wp_seq (wp_region_list (wpList_val rfl (w' := w) (v := .slice ad l.length cap) (by simp [execOp, Act.eval, Act.put]) (wpList_val rfl (w' := w) (v := .bool ad.isNone) (by simp [execOp, Act.eval, Act.put, eqGuard, huE]) (wpList_nil ?_)))))
          cases ad with
          | none =>
            have hl0 := had rfl
            obtain rfl := List.eq_nil_of_length_eq_zero hl0
            refine wp_cond_true (by simp [Act.eval, Act.put]) (wp_seq (wp_region_list (wpList_val rfl (w' := w) (v := .slice none 0 0) (by simp [execOp, Act.eval]) (wpList_nil (wp_ret ?_)))))
            exact fin _ w ⟨.slice none 0 0, 0, E.tid t, E.size t, none⟩ [] (by simp [Act.put]) rfl (Below.refl _ _) rfl rfl rfl (.inl ⟨World.ownsRow_nil w 0 _ _, rfl⟩) (fun i x j c hi => by simp at hi) (fun g hg => by cases hg)
          | some A =>
            refine wp_cond_false (by simp [Act.eval, Act.put]) (wp_skip ?_)
            obtain ⟨i, z, hi, his, hib, hz, hzs⟩ := E.info_ok t
            have hbp := E.bytes_pos t
            let w1 := w.alloc (.cells #[] (E.tid t))
            have hown1 : w1.ownsRow 0 (E.tid t) i.size (.slice (some ⟨w.heap.size, 0, none⟩) 0 0) 0 [] := World.ownsRow_made w #[] 0 (Nat.zero_le _) (Nat.zero_le _) (by simp)
            obtain ⟨v', w', b', hrun, hown', hgrow, hat, _⟩ := run_append_gen (P := P) (w := w1) T T T (E.tid t) i z hT hi hz (by rw [hzs, his]) (.slice (some ⟨w.heap.size, 0, none⟩) 0 0) 0 [] (some w.heap.size) (.inl ⟨hown1, rfl⟩) (.slice (some A) l.length cap) l.length news
              (Src.ofSlice _ hT A _ cap news (by rw [his]; exact hnl) (fun j u hu => by
                have := hnc A rfl j u hu
                exact (World.cell?_alloc_lt w _ _ (cell_lt this)).trans this) hn1) (by
                have : l.length ≤ l.length * E.bytes t := Nat.le_mul_of_pos_right _ hbp
                unfold maxBytes at hok; unfold maxLen; omega) (by rw [hib, Nat.zero_add]; exact hok)
            refine wp_seq (wp_region_list (wpList_val rfl (w' := w1) (v := .slice (some ⟨w.heap.size, 0, none⟩) 0 0) (by simp [execOp, Instr.buildSlice, run_underlying hT, run_size_tid, Instr.fill, newRow, w1, Array.range_zero']) (wpList_val rfl (w' := w1) (v := .slice (some A) l.length cap) (by simp [execOp, Act.eval, Act.put])
              (wpList_val rfl (w' := w') (v := v') (by simp [execOp, Act.eval, Act.put, resolve, invoke, builtin, hrun]) (wpList_val rfl (w' := w') (v := v') (by simp [execOp, Act.eval, Act.put]) (wpList_nil (wp_ret ?_)))))))
            have hbel : Below w.heap.size w w' := (Below.alloc (Below.refl _ _) (Nat.le_refl _) _).trans ⟨hgrow.os, hgrow.tape, hgrow.output, hgrow.size, fun k hk => hgrow.block k (by simp [w1]; omega) (fun e => by cases e; omega)⟩
            rw [his] at hown'
            refine fin _ w' ⟨v', l.length, E.tid t, E.size t, b'⟩ news (by simp [Act.put]) rfl hbel rfl rfl rfl ?_ ?_ ?_
            · simpa [OwnT] using hown'
            · intro i0 x0 j c hx hc
              obtain ⟨u, hu, hdr⟩ := hnd i0 x0 j c hx hc
              exact ⟨u, hu, hdr.mono (fun _ _ h => h) (fun k o h => hbel.cell (p := ⟨k, o, none⟩) (hrolt k o h))⟩
            · intro g hg
              rcases hat with e | e
              · have : b' = some g := hg
                rw [e] at this; cases this; exact Nat.le_refl _
              · have : b' = some g := hg
                rw [e] at this; cases this; simp [w1]
      · cases hF
  · cases hF
end
end Go.Proofs.YtfoflgciceckoaaGreatDoor.Mir
